/- Parts of the proof, joined: RoOwn, RoAwPure, RoAwake, ChValid, ChRefValid, RoFits, RgPure, RgEnds, EncOrder, PrNums, ShOrdPure. -/
import Derived.Test.YthfahkaadbdicaaGreatDoorRt1
import Derived.Test.YthfahkaadbdicaaGreatDoorRt26
import Derived.Test.YthfahkaadbdicaaGreatDoorRt25
import Derived.Test.YthfahkaadbdicaaGreatDoorRt15
import Derived.Test.YthfahkaadbdicaaGreatDoorRt5
import Derived.Test.YthfahkaadbdicaaGreatDoorRt12
import Derived.Test.YthfahkaadbdicaaGreatDoorRt6
import Derived.Laws.OwnMore
import Derived.Lib.Hide
set_option maxRecDepth 100000
set_option maxHeartbeats 16000000
set_option linter.unusedSimpArgs false
open Go.Proofs.Tryz
open ByteArray (empty)
namespace Go.Proofs.YthfahkaadbdicaaGreatDoor
open Go.RowKit
noncomputable def oW(R:Ro)(s:Int)(x:aC):Bool:=decide ((gP R.ks R.ha x).2=0)&&kR R s (gP R.ks R.ha x).1
noncomputable def lN(R:Ro)(s:Int)(l:List aC):List aC:=l.filter (oW R s)
theorem ta{R:Ro}{s:Int}{l:List aC}{i:Nat}{x:aC}(h:l[i]?=some x):lN R s (l.drop i)=(if oW R s x then [x] else [])++lN R s (l.drop (i+1)):=by
 rw[bM h];unfold lN;rw[OB];split<;>rfl
def IS(l:List aC)(w:World)(e:Ending)(w':World):Prop:=
 ∃(A:Option Addr) (m c:Nat) (qs:List PV),e=.returned (.slice A m c)/\qs.map Prod.snd=l/\SL (fun _=>True) w' A m c qs/\Below w.heap.size w w'
structure GU(w:World)(k:Array Value)(v:Value)(qs:List PV)(wr:World):Prop where
 b0:aE wr w.heap.size 53 k
 sz:w.heap.size+1<=wr.heap.size
 vs:Cj w v qs wr
 ne:v.ownBlock≠some w.heap.size
theorem GU.step{w wr w':World}{k:Array Value}{v:Value}{qs:List PV}(h:GU w k v qs wr)(hb:Below wr.heap.size wr w'):GU w k v qs w':=⟨h.b0.step hb,Lt h.sz hb.size,h.vs.step hb,h.ne⟩
theorem GU.add{w wr w':World}{k:Array Value}{v v':Value}{qs:List PV}{p:PV}{m:Nat}(h:GU w k v qs wr)(hp:RV (fun b=>v.ownBlock≠some b) wr p.1 p.2)(hm:m=qs.length+1)(ho:w'.ownsRow w.heap.size 29 5 v' m (aJ bv qs++bv p))(hg:wr.grownBy w' v.ownBlock)(hat:v'.ownBlock=v.ownBlock\/v'.ownBlock=some wr.heap.size):GU w k v' (qs++[p]) w':=by
 have hs:=h.sz;refine⟨h.b0.grown hg (fun e=>h.ne e.symm),Lt h.sz hg.size,h.vs.add hp hm ho hg hat,?_⟩;rcases hat with e|e<;>rw[e]
 ·exact h.ne
 ·exact fun e=>(by injection e;omega)
theorem Fi(R:Ro)(a:RA)(s:Int)(ps:List PV)(A:Option Addr)(n cc:Nat)(w:World)(hT:cg w)(h:RR w a R)(hp:SL (fun _=>True) w A n cc ps)(h8:R.ks.length<=8)(hn:n<=1000):
 Calls prog 47 #[ft a R,.int .i64 s,.slice A n cc] w (IS (lN R s (ps.map Prod.snd)) w):=by
 obtain⟨i0,hi0,hy0,hy1,hy2⟩:=Mc fx;have HOW:=qD fun(key:ByteArray) (wr:World) (hb:Below w.heap.size w wr)=>po R a s key wr (h.step hb);have HT:=qD hT;obtain⟨KA,kn,kc,CA,cn,c1⟩:=a;have HKS:Hid (KS w KA kn kc R.ks):=h.ks;have HPS:=qD hp;have HN:=qD hp.sr.ln
 have I0:Hid (GU w (bW ⟨KA,kn,kc,CA,cn,c1⟩ R) (.slice none 0 0) [] (w.alloc (.cells (bW ⟨KA,kn,kc,CA,cn,c1⟩ R) 53))):=
  ⟨aE.Jq rfl,by simp,⟨bC _ _ _ _,fun p hp=>by simp at hp,(LH _ _).alloc (qL) _⟩,by simp[Value.ownBlock]⟩
 clear h hp hT;go_enter func47,ntmps47;go_upto_region 3 with fail
 change Code.wp _ _ _ _ (w.alloc (.cells (bW ⟨KA,kn,kc,CA,cn,c1⟩ R) 53));generalize w.alloc (.cells (bW ⟨KA,kn,kc,CA,cn,c1⟩ R) 53)=wa at*
 go_loopw [7,9,10,11,14] (fun u7 _ _ _ u14 wr=>∃(i:Nat) (qs:List PV),i<=n/\qs.length<=i/\u14=.int .i64 i/\lN R s (ps.map Prod.snd)=qs.map Prod.snd++lN R s ((ps.map Prod.snd).drop i)/\GU w (bW ⟨KA,kn,kc,CA,cn,c1⟩ R) u7 qs wr) (fun _ _ _ _ u14 _=>n-(intOf u14).toNat)
 ·exact⟨0,[],LQ _,qL,rfl,rfl,I0.out⟩
 case round=>
  obtain⟨i,qs,hi,hql,rfl,hall,J⟩:=hrel;have HQL:=qD hql;have HA:=qD hall;have J2:=qD J;clear hql hall J I0;by_cases hlt:i<n
  ·obtain⟨p,hp⟩:∃p,ps[i]?=some p:=⟨_,LI (by have:=HN.out;omega)⟩;obtain⟨b,off,hA,_,hat,hrv⟩:=HPS.out.KE hp;subst hA;have HPL:Hid ((ps.map Prod.snd)[i]?=some p.2):=by unfold Hid;rw[LV,hp];rfl
   obtain⟨q0,q1,q2,q3,q4⟩:=hat.keep (J2.out.vs.bel.block b hat.lt);have HRV:=qD hrv;have hbw:b<wr.heap.size:=Lr wr _ q0;have i0':(0:Int)<=(i:Int):=by omega
   have i1':(i:Int)<(n:Int):=by omega
   clear hp hat hrv;go_upto_region 5 with fail
   change Code.wp _ _ _ _ (wr.alloc (.cells p.1.arr 29));have JB:Hid (aE (wr.alloc (.cells p.1.arr 29)) wr.heap.size 29 p.1.arr):=aE.Jq rfl;have J3:=qD (J2.out.step ((LH wr.heap.size wr).alloc (qL) (Obj.cells p.1.arr 29)));generalize wr.alloc (.cells p.1.arr 29)=wb at*;generalize wr.heap.size=ga at*;clear q0 q1 q2 q3 q4 J2 hbw;obtain⟨a0,a1,a2,a3,a4⟩:=bS.Jr JB.out;simp only[LL] at a0 a1 a2 a3 a4;obtain⟨q0,q1,q2,q3,q4,q5,qz⟩:=dJ J3.out.b0;simp only at q1 q5;obtain⟨⟨K1,K2⟩,hK⟩:∃K,gP R.ks R.ha p.2=K:=⟨_,rfl⟩;have hE:=pm R.ks R.ha KA kn kc p.2 p.1 wb (HT.out.step J3.out.vs.bel) (HKS.out.step J3.out.vs.bel) (HRV.out.step J3.out.vs.bel) h8;rw[hK] at hE;have HE:=qD hE;have HK:=qD hK;clear hE hK;go_wp2_with fail;refine HE.out.mono ?_;rintro e w1 ⟨rfl,hb⟩;have J4:=qD (J3.out.step hb);have JB4:=qD (JB.out.step hb);clear hb HE J3 JB a0 a1 a2 a3 a4 q0 q1 q2 q3 q4 q5 qz;by_cases hk:K2=0;rotate_left
   ·have hkb:(K2==0)=false:=by simpa using hk
    have HF:Hid (lN R s (ps.map Prod.snd)=qs.map Prod.snd++lN R s ((ps.map Prod.snd).drop (i+1))):=by
     have:oW R s p.2=false:=by unfold oW;rw[HK.out,LW hk];rfl
     unfold Hid;rw[HA.out,ta HPL.out,this];rfl
    clear hk;go_wp2_with fail;go_roundw
    ·exact⟨i+1,qs,hlt,by have:=HQL.out;omega,by go_num,HF.out,J4.out⟩
    ·simp[intOf];omega
   subst hk;obtain⟨q0,q1,q2,q3,q4,q5,qz⟩:=dJ J4.out.b0;simp only at q1 q5;have HO1:=qD (HOW.out K1 w1 J4.out.vs.bel);cases ho:kR R s K1
   ·have HF:Hid (lN R s (ps.map Prod.snd)=qs.map Prod.snd++lN R s ((ps.map Prod.snd).drop (i+1))):=by
     have:oW R s p.2=false:=by unfold oW;rw[HK.out,ho,OO]
     unfold Hid;rw[HA.out,ta HPL.out,this];rfl
    rw[ho] at HO1;clear ho;go_wp2_with fail;refine HO1.out.mono ?_;rintro e w2 ⟨rfl,hb⟩;have J5:=qD (J4.out.step hb);clear hb HO1 J4 JB4 q0 q1 q2 q3 q4 q5 qz;go_wp2_with fail;go_roundw
    ·exact⟨i+1,qs,hlt,by have:=HQL.out;omega,by go_num,HF.out,J5.out⟩
    ·simp[intOf];omega
   ·have HF:Hid (lN R s (ps.map Prod.snd)=(qs.map Prod.snd++[p.2])++lN R s ((ps.map Prod.snd).drop (i+1))):=by
     have:oW R s p.2=true:=by unfold oW;rw[HK.out,ho];rfl
     unfold Hid;rw[HA.out,ta HPL.out,this];simp
    rw[ho] at HO1;clear ho;go_wp2_with fail;refine HO1.out.mono ?_;rintro e w2 ⟨rfl,hb⟩;have J5:=qD (J4.out.step hb);have JB5:=qD (JB4.out.step hb);clear hb HO1 J4 JB4 q0 q1 q2 q3 q4 q5 qz;obtain⟨a0,a1,a2,a3,a4⟩:=bS.Jr JB5.out;simp only[LL] at a0 a1 a2 a3 a4;have HC:=qD (vi p.2 p.1 w2 (HRV.out.step J5.out.vs.bel));go_wp2_with fail;refine HC.out.mono ?_;rintro e w3 ⟨c9,rfl,hr,hb⟩;have hlo:w.heap.size<=w3.heap.size:=(J5.out.step hb).vs.bel.size;have hqi:qs.length<=1000:=by have:=HQL.out;omega
    have LK:=qD ((J5.out.step hb).step ((LH w3.heap.size w3).alloc (qL) (Obj.cells c9.arr 29)));have HRZ:Hid (RV (fun b=>Value.ownBlock u7≠some b) (w3.alloc (.cells c9.arr 29)) c9 p.2):=(hr.alloc _).mono fun b hb'=>J5.out.vs.Jz (.inr hb');clear hb hr HC a0 a1 a2 a3 a4 J5 JB5;go_wp2_with (at_builtin;refine aD _ rfl _ _ 26 rfl w.heap.size 29 i0 VC.zero.val 5 80 Mh hi0 hy0 hy1 hy2 rfl (by decide) u7 qs.length (aJ bv qs) rfl LK.out.vs.own _ _ 1 _ (bv (c9,p.2)) rfl ⟨rfl,fun _=>⟨_,rfl,Lo _,ap _ _ _⟩⟩ (iK _) (by unfold maxLen;omega) (by omega) (pk hlo _) ?_);intro v' w6 hown hgr hat;have HI:=qD (LK.out.add (p:=(c9,p.2)) HRZ.out rfl hown hgr (by rw[lV];exact hat));clear hown hgr hat LK HRZ;go_wp2_with fail;go_roundw
    ·exact⟨i+1,qs++[(c9,p.2)],hlt,by rw[LM];have:=HQL.out;simp;omega,by go_num,by rw[HF.out];simp,HI.out⟩
    ·simp[intOf];omega
  ·obtain rfl:i=n:=by omega
   have HF:Hid (lN R s (ps.map Prod.snd)=qs.map Prod.snd):=by
    unfold Hid;rw[HA.out,La (by rw[Lb];have:=HN.out;omega)];simp[lN]
   obtain⟨A1,c2,hu,hsl⟩:=J2.out.vs.sl (by have:=HQL.out;omega);have HSL:=qD hsl;subst hu;clear hsl;go_wp2_with fail;go_ret;exact⟨A1,qs.length,c2,qs,rfl,HF.out.symm,HSL.out,J2.out.vs.bel⟩
theorem yk(s : ByteArray)(x : Nat)(w : World)(hs : s.size = 1)(hx : ((s[0]'(by omega)).toNat : Int) = (x : Int))(hx2 : x < 255) :
 Calls prog 102 #[.string s] w fun e w'=>e=.returned (.tuple #[.string (strOfNums [((x+1:Nat):Int)]),.bool true])/\Below w.heap.size w w':=by
 have h1:((x:Int)==255)=false:=by simp;omega
 have h2:((x:Int)+1)%256=((x+1:Nat):Int):=by omega
 obtain⟨z,hz⟩:∃z:Int,z=((x+1:Nat):Int):=⟨_,rfl⟩;have hzx:z=(x:Int)+1:=by omega
 have hcv:(convert 116 9 (.slice (some ⟨w.heap.size,0,none⟩) 1 1)).run prog ((w.alloc (.cells #[.int .u8 ((x:Int)+1)] 5)).drew)=.ok (.string (strOfNums [z])) ((w.alloc (.cells #[.int .u8 ((x:Int)+1)] 5)).drew):=by
  rw[<-hzx];refine NP (P:=prog) _ 116 5 MM NC w.heap.size 0 1 1 [z] rfl (fun i hi=>?_) 9 MB;obtain rfl:i=0:=by omega
  exact(aE.new w 5 #[.int .u8 z]).drew.cell 0
 rw[<-hz];obtain⟨Z,hZ⟩:∃Z,Z=strOfNums [z]:=⟨_,rfl⟩;rw[<-hZ] at hcv ⊢;have hZs:Z.size=1:=by rw[hZ,MQ];rfl
 have HZ:=qD hZ;have HZZ:=qD hz;clear hz hZ h2 hzx;go_enter func102,ntmps102;go_upto_region 2 with fail
 go_loopw [4] (fun v wr=>v=.int .i64 1/\wr=w) (fun _ _=>0)
 ·exact⟨rfl,rfl⟩
 case round=>
  obtain⟨rfl,rfl⟩:=hrel;go_wp2_with fail
  go_region
  all_goals
   go_wp2_with fail;go_ret2;exact⟨rfl,((LH _ _).alloc (qL) _).drew⟩
abbrev qj:ByteArray:=⟨#[3,128,0,0,0,0,0,0,10]⟩
abbrev k9:ByteArray:=⟨#[3,128,0,0,0,0,0,0,9]⟩
abbrev IT:ByteArray:=⟨#[3,128,0,0,0,0,0,0,11]⟩
abbrev k3:ByteArray:=⟨#[3,128,0,0,0,0,0,0,3]⟩
theorem tb:eD [jm 10]=(qj,0):=by rw[yW,DZ]
theorem Do(w:World):Calls prog 102 #[.string qj] w fun e w'=>e=.returned (.tuple #[.string (qj.extract 0 8++strOfNums [((10+1:Nat):Int)]),.bool true])/\Below w.heap.size w w':=
 pU qj 10 w rfl rfl (by omega)
theorem Dp:qj.extract 0 8++strOfNums [((10+1:Nat):Int)]=IT:=by kernel_rfl
theorem yl:av aN eL:=(aZ _ _).2 ⟨by simp[eN,eL,aC.k,aC.n,aC.t,aC.l,aC.d],by simp[eL,aC.l],by simp[eL,aC.d],by simp[eL,aC.d,iF]⟩
theorem ym:aO eL=true:=by
 have h1:eL.size=1:=by simp[eL,aC.size]
 have h2:eL.Ju=1:=by simp[eL,aC.Ju]
 unfold aO;rw[LN (by omega),LN (by omega),cX yl];rfl
theorem yo:av aN ff:=(aZ _ _).2 ⟨by simp[eN,ff,aC.k,aC.n,aC.t,aC.l,aC.d],by simp[ff,aC.l],by simp[ff,aC.d],by simp[ff,aC.d,iF]⟩
theorem yp:aO ff=true:=by
 have h1:ff.size=1:=by simp[ff,aC.size]
 have h2:ff.Ju=1:=by simp[ff,aC.Ju]
 unfold aO;rw[LN (by omega),LN (by omega),cX yo];rfl
theorem Dq:eD [eL]=(⟨#[1]⟩,0):=by
 rw[jP (by unfold eC;simp[gQ ym])];have:strOfNums (cS [eL])=⟨#[1]⟩:=by kernel_rfl
 rw[this]
theorem Dr:eD [ff]=(⟨#[11]⟩,0):=by
 rw[jP (by unfold eC;simp[gQ yp])];have:strOfNums (cS [ff])=⟨#[11]⟩:=by kernel_rfl
 rw[this]
theorem Bk(w:World):Calls prog 102 #[.string ⟨#[11]⟩] w fun e w'=>e=.returned (.tuple #[.string (strOfNums [((11+1:Nat):Int)]),.bool true])/\Below w.heap.size w w':=
 yk ⟨#[11]⟩ 11 w rfl rfl (by omega)
abbrev JD:Ch:=⟨empty,qj,0,2,false⟩
abbrev JE:Ch:=⟨qj,empty,1,1,false⟩
abbrev fU:Ro:=⟨⟨#[115]⟩,Ba,false,1,2,[JD,JE]⟩
theorem Ds:ls (qj,IT) fU.cs=[1]:=by kernel_rfl
theorem AJ:ls (empty,empty) fU.cs=[0,1]:=by kernel_rfl
theorem IU:gP Ba false (vD 9)=(k9,0):=by rw[AD,Fb]
theorem IV:gP Ba false (vD 3)=(k3,0):=by rw[AD,Fc]
theorem Hd:gP Ba false (vD 11)=(IT,0):=by rw[AD,Da]
theorem IW:eo (uK k9) fU.cs=0:=by kernel_rfl
theorem IY:yf fU k9=0:=by kernel_rfl
theorem IZ:qx fU (vD 9)=(0,0):=by
 unfold qx;rw[show gP fU.ks fU.ha (vD 9)=(k9,0) from IU];rw[LZ rfl,IW,LU (by decide),IY]
theorem Fj:kR fU 1 qj=true:=by kernel_rfl
theorem owns_10':kR fU 0 qj=false:=by kernel_rfl
theorem Ia:tZ 0 fU.cs=2:=by kernel_rfl
theorem Ib:tZ 1 fU.cs=1:=by kernel_rfl
theorem Ic:Bh fU (tZ 0 fU.cs) 1 2=0:=by rw[Ia];rfl
theorem Ie:Bh fU (tZ 1 fU.cs) 1 2=27:=by rw[Ib];rfl
theorem He:kR fU 1 k3=false:=by kernel_rfl
theorem Fk:kR fU 1 IT=true:=by kernel_rfl
theorem Fl:lN fU 1 [vD 3,vD 11]=[vD 11]:=by
 have h3:oW fU 1 (vD 3)=false:=by
  unfold oW;rw[show gP fU.ks fU.ha (vD 3)=(k3,0) from IV,He];rfl
 have h11:oW fU 1 (vD 11)=true:=by
  unfold oW;rw[show gP fU.ks fU.ha (vD 11)=(IT,0) from Hd,Fk];rfl
 unfold lN;rw[OB,h3,OB,h11];rfl
abbrev tc(n:Int):Array Value:=#[.string ka,.int .i64 3,.int .i64 n,.string empty,.slice none 0 0,.slice none 0 0]
theorem vj{w:World}{g n:Nat}{t:TypeId}{l:List Int}(h:aE w g t (aJ cW l).toArray)(hn:n=l.length):SR 1 cW w (some ⟨g,0,none⟩) n n l:=by
 refine⟨hn,qL,fun _=>⟨g,0,rfl,h.lt,fun i a hi j v hj=>?_⟩⟩;rw[LL,h.cell,Mx];exact bg eS hi hj
theorem Dt{w:World}{g n:Nat}{ps:List PV}(h:aE w g 29 (aJ bv ps).toArray)(hn:n=ps.length)(hz:n*80<=aF)(hok:∀p∈ps,RW w p.1 p.2):SL (fun _=>True) w (some ⟨g,0,none⟩) n n ps:=by
 refine⟨⟨hn,qL,fun _=>⟨g,0,rfl,h.lt,fun i a hi j v hj=>?_⟩⟩,hz,fun _=>⟨_,_,rfl,Ft.Kp⟩,hok⟩;rw[LL,h.cell,Mx];exact bg dw hi hj
theorem Fm{w:World}{g n:Nat}{l:List Ch}(h:aE w g 92 (aJ ez l).toArray)(hn:n=l.length)(hz:n*56<=aF):CS w (some ⟨g,0,none⟩) n n l:=by
 refine⟨⟨hn,qL,fun _=>⟨g,0,rfl,h.lt,fun i a hi j v hj=>?_⟩⟩,hz⟩;rw[LL,h.cell,Mx];exact bg nk hi hj
def If(n:Int)(w:World)(e:Ending)(w':World):Prop:=
 ∃g:Nat,e=.returned (cD g).val/\aE w' g 73 (tc n)/\Below w.heap.size w w'
theorem nP(n:Int)(w:World):Calls prog 44 #[.int .i64 n] w (If n w):=by
 obtain⟨W2,hW⟩:∃W2,(w.alloc (.cells (cD (w.heap.size+1)).arr 29)).alloc (.cells (tc n) 73)=W2:=⟨_,rfl⟩;have hB:Hid (aE W2 w.heap.size 29 (cD (w.heap.size+1)).arr):=by rw[<-hW];exact(aE.Jq rfl).alloc _
 have hF:Hid (aE W2 (w.heap.size+1) 73 (tc n)):=by rw[<-hW];exact aE.Jq (by simp)
 have hE:Hid (Below w.heap.size w W2):=by rw[<-hW];exact((LH _ _).alloc (qL) _).alloc (by simp) _
 have HW:=qD hW;clear hW;go_enter func44,ntmps44;go_wp2_with fail;change bodyPost _ _ _ _ _ ((w.alloc (.cells (cD (w.heap.size+1)).arr 29)).alloc (.cells (tc n) 73));rw[HW.out];have hV:=bS.Jr hB.out;exact Lp (dX rfl _ w.heap.size 0 rfl _ (cD (w.heap.size+1)) hV) rfl ⟨w.heap.size+1,rfl,hF.out,hE.out⟩
theorem vk(w:World)(hT:cg w):Calls prog 14 #[] w fun e w'=>e=.returned (.bool true)/\Below w.heap.size w w':=by
 have HT:=qD hT;clear hT;obtain⟨W1,hW⟩:∃W1,(((w.alloc (.cells #[.string ka] 9)).alloc (.cells (vc 10).arr 29)).alloc (.cells (vc 10).arr 29)).alloc (.cells #[.bool false] 4)=W1:=⟨_,rfl⟩;have P0:Hid (aE W1 w.heap.size 9 #[.string ka]):=by rw[<-hW];exact(((aE.Jq rfl).alloc _).alloc _).alloc _
 have P1:Hid (aE W1 (w.heap.size+1) 29 (vc 10).arr):=by rw[<-hW];exact((aE.Jq (by simp)).alloc _).alloc _
 have P2:Hid (aE W1 (w.heap.size+1+1) 29 (vc 10).arr):=by rw[<-hW];exact(aE.Jq (by simp)).alloc _
 have P3:Hid (aE W1 (w.heap.size+1+1+1) 4 #[.bool false]):=by rw[<-hW];exact aE.Jq (by simp)
 have Z1:Hid (Below w.heap.size w W1):=by rw[<-hW];exact((((LH _ _).alloc (qL) _).alloc (by simp) _).alloc (by simp;omega) _).alloc (by simp;omega) _
 have HENC:Hid (Calls prog 43 #[.slice (some ⟨w.heap.size+1+1,0,none⟩) 1 1,.slice (some ⟨w.heap.size+1+1+1,0,none⟩) 1 1] W1 fun e w'=>e=.returned (.tuple #[.string qj,.int .i64 0])/\Below W1.heap.size W1 w'):=qD (by
  have:=oB [(vc 10,jm 10)] (some ⟨w.heap.size+1+1,0,none⟩) (some ⟨w.heap.size+1+1+1,0,none⟩) 1 1 1 W1 (qO P2.out (Df 10 _)) (zT P3.out) (by omega)
  rw[show [(vc 10,jm 10)].map Prod.snd=[jm 10] from rfl,tb] at this
  exact this)
 have HW:=qD hW;clear hW;go_enter func14,ntmps14;go_wp2_with fail;change Calls _ _ _ ((((w.alloc (.cells #[.string ka] 9)).alloc (.cells (vc 10).arr 29)).alloc (.cells (vc 10).arr 29)).alloc (.cells #[.bool false] 4)) _;rw[HW.out];refine HENC.out.mono ?_;rintro e w5 ⟨rfl,hb⟩;replace P0:=qD (P0.out.step hb);replace P1:=qD (P1.out.step hb);have Z5:=qD (Z1.out.Jp hb);clear hb HENC HW P2 P3 Z1;obtain⟨x0,x1,x2,x3,x4⟩:=bS.Jr P1.out;simp only[LL] at x0 x1 x2 x3 x4;go_upto_region 5 with fail
 obtain⟨W6,hW⟩:∃W6,((w5.alloc (.cells #[.slice (some ⟨w.heap.size,0,none⟩) 1 1,.bool false] 66)).alloc (.cells (aJ ez [JD,JE]).toArray 92)).alloc (.cells (bW ⟨some ⟨w5.heap.size,0,none⟩,1,1,some ⟨w5.heap.size+1,0,none⟩,2,2⟩ fU) 53)=W6:=⟨_,rfl⟩;have Q0:Hid (aE W6 w5.heap.size 66 #[.slice (some ⟨w.heap.size,0,none⟩) 1 1,.bool false]):=by rw[<-hW];exact((aE.Jq rfl).alloc _).alloc _
 have Q1:Hid (aE W6 (w5.heap.size+1) 92 (aJ ez [JD,JE]).toArray):=by rw[<-hW];exact(aE.Jq (by simp)).alloc _
 have Q2:Hid (aE W6 (w5.heap.size+1+1) 53 (bW ⟨some ⟨w5.heap.size,0,none⟩,1,1,some ⟨w5.heap.size+1,0,none⟩,2,2⟩ fU)):=by rw[<-hW];exact aE.Jq (by simp)
 have hb6:Below w5.heap.size w5 W6:=by rw[<-hW];exact(((LH _ _).alloc (qL) _).alloc (by simp) _).alloc (by simp;omega) _
 replace P0:=qD (P0.out.step hb6);replace P1:=qD (P1.out.step hb6);have Z6:=qD (Z5.out.Jp hb6);change Code.wp _ _ _ _ (((w5.alloc (.cells #[.slice (some ⟨w.heap.size,0,none⟩) 1 1,.bool false] 66)).alloc (.cells (aJ ez [JD,JE]).toArray 92)).alloc (.cells (bW ⟨some ⟨w5.heap.size,0,none⟩,1,1,some ⟨w5.heap.size+1,0,none⟩,2,2⟩ fU) 53));rw[hW];clear hW hb6 x0 x1 x2 x3 x4 Z5;generalize w5.heap.size+1+1=gr at*;generalize w5.heap.size+1=gc at*;generalize w5.heap.size=go at*;generalize w.heap.size+1=gt at*;obtain⟨x0,x1,x2,x3,x4⟩:=bS.Jr P1.out;simp only[LL] at x0 x1 x2 x3 x4;obtain⟨q0,q1,q2,q3,q4,q5,qz⟩:=dJ Q2.out;simp only at q1 q5;have RRR:Hid (RR W6 (⟨some ⟨go,0,none⟩,1,1,some ⟨gc,0,none⟩,2,2⟩:RA) fU):=qD ⟨by show 1<=aF;decide,De P0.out Q0.out,Fm Q1.out rfl (by show 2*56<=aF;decide)⟩
 have HT1:Hid (Calls prog 16 #[ft (⟨some ⟨go,0,none⟩,1,1,some ⟨gc,0,none⟩,2,2⟩:RA) fU,.agg (fj 2 (some ⟨w.heap.size,0,none⟩) 1 1 (vc 10))] W6 fun e w'=>∃A' n c',e=.returned (.slice A' n c')/\SR 1 cW w' A' n c' [1]/\Below W6.heap.size W6 w'):=qD (by
  have:=oC fU (⟨some ⟨go,0,none⟩,1,1,some ⟨gc,0,none⟩,2,2⟩:RA) (fj 2 (some ⟨w.heap.size,0,none⟩) 1 1 (vc 10)) rfl (qj,qj.extract 0 8++strOfNums [((10+1:Nat):Int)]) W6 RRR.out (by show 2<=2;decide) (by rw[Dp,Ds];exact .inl ⟨1,rfl⟩)
   (fun wr hb=>kP (eM (jm 10)) true qj qj (qj.extract 0 8++strOfNums [((10+1:Nat):Int)]) qj (qj.extract 0 8++strOfNums [((10+1:Nat):Int)]) (fj 2 (some ⟨w.heap.size,0,none⟩) 1 1 (vc 10)) rfl ⟨some ⟨w.heap.size,0,none⟩,1,1,false⟩ go 0 1 1 wr (HT.out.step (Z6.out.Jp hb)) (by omega) ((Q0.out.step hb).cell 0) ⟨rfl,rfl⟩ tb tb (.inl ⟨by show(3:Int)≠1;decide,by show(3:Int)≠11;decide,rfl,rfl⟩) Do
     (fun wq hq=>GQ (jm 10) (vc 10) (some ⟨w.heap.size,0,none⟩) (some ⟨w.heap.size,0,none⟩) 1 1 1 1 [ka] wq (HT.out.step ((Z6.out.Jp hb).Jp hq)) (Df 10 wq) (oh 10) (by show(3:Int)≠6;decide) (by show(3:Int)≠2;decide) (ru ((P0.out.step hb).step hq)) (ru ((P0.out.step hb).step hq)) AF))
  rw[Dp,Ds] at this
  exact this)
 have HT2:Hid (∀wy,Below W6.heap.size W6 wy->Calls prog 16 #[ft (⟨some ⟨go,0,none⟩,1,1,some ⟨gc,0,none⟩,2,2⟩:RA) fU,.agg (fj 1 none 0 0 VC.zero)] wy fun e w'=>∃A' n c',e=.returned (.slice A' n c')/\SR 1 cW w' A' n c' [0,1]/\Below wy.heap.size wy w'):=qD fun wy hy=>by
  have:=oC fU (⟨some ⟨go,0,none⟩,1,1,some ⟨gc,0,none⟩,2,2⟩:RA) (fj 1 none 0 0 VC.zero) rfl (empty,empty) wy (RRR.out.step hy) (by show 2<=2;decide) (by rw[AJ];exact .inr ⟨0,1,by decide,rfl⟩)
   (fun wr hb=>kP iq false ⟨#[1]⟩ ⟨#[11]⟩ (strOfNums [((11+1:Nat):Int)]) empty empty (fj 1 none 0 0 VC.zero) rfl ⟨some ⟨w.heap.size,0,none⟩,1,1,false⟩ go 0 1 1 wr (HT.out.step ((Z6.out.Jp hy).Jp hb)) (by omega) (((Q0.out.step hy).step hb).cell 0) ⟨rfl,rfl⟩ Dq Dr (.inr ⟨rfl,rfl,rfl,rfl⟩) Bk
     (fun wq hq=>FM (some ⟨w.heap.size,0,none⟩) 1 1 [ka] wq (ru (((P0.out.step hy).step hb).step hq)) rfl))
  rw[AJ] at this;exact this
 go_wp2_with fail;refine HT1.out.mono ?_;rintro e w7 ⟨A1,n1,c1,rfl,hs1,hb⟩;obtain rfl:n1=1:=hs1.ln;have HN2:=qD (HT2.out w7 hb);have S1:=qD hs1;replace Q2:=qD (Q2.out.step hb);replace RRR:=qD (RRR.out.step hb);have Z7:=qD (Z6.out.Jp hb);clear hb hs1 HT1 HT2 Z6 Q0 Q1 P0 P1 x0 x1 x2 x3 x4 q0 q1 q2 q3 q4 q5 qz;obtain⟨q0,q1,q2,q3,q4,q5,qz⟩:=dJ Q2.out;simp only at q1 q5;go_wp2_with fail;refine HN2.out.mono ?_;rintro e w8 ⟨A2,n2,c2,rfl,hs2,hb⟩;obtain rfl:n2=2:=hs2.ln;have S2:=qD hs2;replace S1:=qD (S1.out.step hb);replace Q2:=qD (Q2.out.step hb);replace RRR:=qD (RRR.out.step hb);have Z8:=qD (Z7.out.Jp hb);clear hb hs2 HN2 Z7 q0 q1 q2 q3 q4 q5 qz;obtain⟨q0,q1,q2,q3,q4,q5,qz⟩:=dJ Q2.out;simp only at q1 q5;go_upto_region 7 with fail
 have B:=qD ((LH w8.heap.size w8).drewN 1);have KSS:Hid (∀w',Below w8.heap.size w8 w'->w'.cell? ⟨gr,0,none⟩=some (.string fU.sp)/\w'.cell? ⟨gr,1,none⟩=some (.slice (some ⟨go,0,none⟩) 1 1)/\w'.cell? ⟨gr,2,none⟩=some (.bool fU.ha)/\w'.cell? ⟨gr,3,none⟩=some (.int .i64 fU.ep)/\w'.cell? ⟨gr,4,none⟩=some (.int .i64 fU.ver)/\w'.cell? ⟨gr,5,none⟩=some (.slice (some ⟨gc,0,none⟩) 2 2)):=qD fun w' hb=>⟨(hb.cell (p:=⟨gr,0,none⟩) Q2.out.lt).trans q0,(hb.cell (p:=⟨gr,1,none⟩) Q2.out.lt).trans q1,(hb.cell (p:=⟨gr,2,none⟩) Q2.out.lt).trans q2,(hb.cell (p:=⟨gr,3,none⟩) Q2.out.lt).trans q3,(hb.cell (p:=⟨gr,4,none⟩) Q2.out.lt).trans q4,(hb.cell (p:=⟨gr,5,none⟩) Q2.out.lt).trans q5⟩
 have HROU:Hid (∀(g:Nat) (wq:World),cg wq->RR wq (⟨some ⟨go,0,none⟩,1,1,some ⟨gc,0,none⟩,2,2⟩:RA) fU->RW wq (cD g) (vD 9)->Calls prog 18 #[ft (⟨some ⟨go,0,none⟩,1,1,some ⟨gc,0,none⟩,2,2⟩:RA) fU,(cD g).val] wq fun e w'=>e=.returned (.tuple #[.int .i64 0,.int .i64 0])/\Below wq.heap.size wq w'):=qD fun g wq ht hk hr=>by
  have:=Bi fU (⟨some ⟨go,0,none⟩,1,1,some ⟨gc,0,none⟩,2,2⟩:RA) (vD 9) (cD g) wq ht hk hr (by decide);rw[IZ] at this;exact this
 clear q0 q1 q2 q3 q4 q5 qz
 go_cut [8,9] (fun v8 v9 wx=>v8=.int .i64 0/\v9=.int .i64 0/\Below w8.heap.size w8 wx)
 case first=>
  go_region_held3 (fun w'=>w'.cell? ⟨gr,0,none⟩=some (.string fU.sp)/\w'.cell? ⟨gr,1,none⟩=some (.slice (some ⟨go,0,none⟩) 1 1)/\w'.cell? ⟨gr,2,none⟩=some (.bool fU.ha)/\w'.cell? ⟨gr,3,none⟩=some (.int .i64 fU.ep)/\w'.cell? ⟨gr,4,none⟩=some (.int .i64 fU.ver)/\w'.cell? ⟨gr,5,none⟩=some (.slice (some ⟨gc,0,none⟩) 2 2))
   (first|exact KSS.out _ B.out|((try dsimp only);assumption)|go_keep)
   (first
     | (go_at_call 44;refine(nP 9 _).mono ?_;rintro e3 w3 ⟨gd,rfl,hd,hb⟩;replace B:=qD (B.out.Jp hb);have HD:=qD hd;clear hb hd)
     | (go_at_call 18;refine(HROU.out gd _ (HT.out.step (Z8.out.Jp B.out)) (RRR.out.step B.out) (Fe HD.out)).mono ?_;rintro e4 w4 ⟨rfl,hb⟩;replace B:=qD (B.out.Jp hb);clear hb))
  all_goals
   go_wp2_with fail;go_meet;exact⟨rfl,rfl,B.out⟩
 case rest=>
  obtain⟨rfl,rfl,hb9⟩:=hcut;replace S1:=qD (S1.out.step hb9);replace S2:=qD (S2.out.step hb9);replace Q2:=qD (Q2.out.step hb9);replace RRR:=qD (RRR.out.step hb9);have Z9:=qD (Z8.out.Jp hb9);clear hb9 KSS B HROU Z8;generalize wc=w9 at*;obtain⟨q0,q1,q2,q3,q4,q5,qz⟩:=dJ Q2.out;simp only at q1 q5;have KSS:Hid (∀w',Below w9.heap.size w9 w'->w'.cell? ⟨gr,0,none⟩=some (.string fU.sp)/\w'.cell? ⟨gr,1,none⟩=some (.slice (some ⟨go,0,none⟩) 1 1)/\w'.cell? ⟨gr,2,none⟩=some (.bool fU.ha)/\w'.cell? ⟨gr,3,none⟩=some (.int .i64 fU.ep)/\w'.cell? ⟨gr,4,none⟩=some (.int .i64 fU.ver)/\w'.cell? ⟨gr,5,none⟩=some (.slice (some ⟨gc,0,none⟩) 2 2)):=qD fun w' hb=>⟨(hb.cell (p:=⟨gr,0,none⟩) Q2.out.lt).trans q0,(hb.cell (p:=⟨gr,1,none⟩) Q2.out.lt).trans q1,(hb.cell (p:=⟨gr,2,none⟩) Q2.out.lt).trans q2,(hb.cell (p:=⟨gr,3,none⟩) Q2.out.lt).trans q3,(hb.cell (p:=⟨gr,4,none⟩) Q2.out.lt).trans q4,(hb.cell (p:=⟨gr,5,none⟩) Q2.out.lt).trans q5⟩
  have OW1:Hid (∀wr,Below w9.heap.size w9 wr->Calls prog 45 #[ft (⟨some ⟨go,0,none⟩,1,1,some ⟨gc,0,none⟩,2,2⟩:RA) fU,.int .i64 1,.string qj] wr fun e w'=>e=.returned (.bool true)/\Below wr.heap.size wr w'):=qD fun wr hb=>by
   have:=po fU (⟨some ⟨go,0,none⟩,1,1,some ⟨gc,0,none⟩,2,2⟩:RA) 1 qj wr (RRR.out.step hb);rw[Fj] at this;exact this
  have OW0:Hid (∀wr,Below w9.heap.size w9 wr->Calls prog 45 #[ft (⟨some ⟨go,0,none⟩,1,1,some ⟨gc,0,none⟩,2,2⟩:RA) fU,.int .i64 0,.string qj] wr fun e w'=>e=.returned (.bool false)/\Below wr.heap.size wr w'):=qD fun wr hb=>by
   have:=po fU (⟨some ⟨go,0,none⟩,1,1,some ⟨gc,0,none⟩,2,2⟩:RA) 0 qj wr (RRR.out.step hb);rw[owns_10'] at this;exact this
  have CK0:Hid (∀wr,Below w9.heap.size w9 wr->Calls prog 46 #[ft (⟨some ⟨go,0,none⟩,1,1,some ⟨gc,0,none⟩,2,2⟩:RA) fU,.int .i64 0,.int .i64 1,.int .i64 2] wr fun e w'=>e=.returned (.int .i64 0)/\Below wr.heap.size wr w'):=qD fun wr hb=>by
   have:=sC fU (⟨some ⟨go,0,none⟩,1,1,some ⟨gc,0,none⟩,2,2⟩:RA) 0 1 2 wr (RRR.out.step hb);rw[Ic] at this;exact this
  have CK1:Hid (∀wr,Below w9.heap.size w9 wr->Calls prog 46 #[ft (⟨some ⟨go,0,none⟩,1,1,some ⟨gc,0,none⟩,2,2⟩:RA) fU,.int .i64 1,.int .i64 1,.int .i64 2] wr fun e w'=>e=.returned (.int .i64 27)/\Below wr.heap.size wr w'):=qD fun wr hb=>by
   have:=sC fU (⟨some ⟨go,0,none⟩,1,1,some ⟨gc,0,none⟩,2,2⟩:RA) 1 1 2 wr (RRR.out.step hb);rw[Ie] at this;exact this
  clear q0 q1 q2 q3 q4 q5 qz;go_upto_region 8 with fail
  have B:=qD ((LH w9.heap.size w9).drew);refine MX ?_;refine ML (S:=(fun w'=>w'.cell? ⟨gr,0,none⟩=some (.string fU.sp)/\w'.cell? ⟨gr,1,none⟩=some (.slice (some ⟨go,0,none⟩) 1 1)/\w'.cell? ⟨gr,2,none⟩=some (.bool fU.ha)/\w'.cell? ⟨gr,3,none⟩=some (.int .i64 fU.ep)/\w'.cell? ⟨gr,4,none⟩=some (.int .i64 fU.ver)/\w'.cell? ⟨gr,5,none⟩=some (.slice (some ⟨gc,0,none⟩) 2 2))) (by kernel_rfl) ?_ (fun hHeld=>?_)
  ·(try dsimp only);exact KSS.out _ B.out
  generalize w9.drew=v0 at*;refine rU 0 rfl ?_
  try go_frame
  refine rY 1 rfl fun K hK=>?_;go_simp;change K _ (v0.alloc (.cells (aJ cW [1]).toArray 3));have G1:Hid (aE (v0.alloc (.cells (aJ cW [1]).toArray 3)) v0.heap.size 3 (aJ cW [1]).toArray):=aE.Jq rfl;replace B:=qD (B.out.alloc B.out.size (Obj.cells (aJ cW [1]).toArray 3));generalize v0.alloc (.cells (aJ cW [1]).toArray 3)=v1 at*;generalize v0.heap.size=g1 at*;clear hHeld;refine hK.out _ _ ?_ fun hHeld=>?_
  ·(try dsimp only);exact KSS.out _ B.out
  clear hK K
  try go_frame
  refine rY 2 rfl fun K hK=>?_;go_simp;refine(ld [1] A1 (some ⟨g1,0,none⟩) 1 c1 1 v1 (S1.out.step B.out) (vj G1.out rfl) (by omega)).mono ?_;rintro e3 v2 ⟨rfl,hb⟩;replace B:=qD (B.out.Jp hb);clear hb
  (try go_wp2_with fail)
  clear hHeld;refine hK.out _ _ ?_ fun hHeld=>?_
  ·(try dsimp only);exact KSS.out _ B.out
  clear hK K
  try go_frame
  refine rU 3 rfl ?_
  try go_frame
  refine rU 4 rfl ?_
  try go_frame
  refine rY 5 rfl fun K hK=>?_;go_simp;change K _ (v2.alloc (.cells (aJ cW [0,1]).toArray 3));have G2:Hid (aE (v2.alloc (.cells (aJ cW [0,1]).toArray 3)) v2.heap.size 3 (aJ cW [0,1]).toArray):=aE.Jq rfl;replace B:=qD (B.out.alloc B.out.size (Obj.cells (aJ cW [0,1]).toArray 3));generalize v2.alloc (.cells (aJ cW [0,1]).toArray 3)=v3 at*;generalize v2.heap.size=g2 at*;clear hHeld;refine hK.out _ _ ?_ fun hHeld=>?_
  ·(try dsimp only);exact KSS.out _ B.out
  clear hK K
  try go_frame
  refine rY 6 rfl fun K hK=>?_;go_simp;refine(ld [0,1] A2 (some ⟨g2,0,none⟩) 2 c2 2 v3 (S2.out.step B.out) (vj G2.out rfl) (by omega)).mono ?_;rintro e3 v4 ⟨rfl,hb⟩;replace B:=qD (B.out.Jp hb);clear hb
  (try go_wp2_with fail)
  clear hHeld;refine hK.out _ _ ?_ fun hHeld=>?_
  ·(try dsimp only);exact KSS.out _ B.out
  clear hK K
  try go_frame
  refine rU 7 rfl ?_
  try go_frame
  refine rU 8 rfl ?_
  try go_frame
  refine rU 9 rfl ?_
  try go_frame
  refine rU 10 rfl ?_
  try go_frame
  refine rU 11 rfl ?_
  try go_frame
  refine rU 12 rfl ?_
  try go_frame
  refine rU 13 rfl ?_
  try go_frame
  refine rU 14 rfl ?_
  try go_frame
  refine rU 15 rfl ?_
  try go_frame
  refine rU 16 rfl ?_
  try go_frame
  refine rU 17 rfl ?_
  try go_frame
  refine rU 18 rfl ?_
  try go_frame
  refine rY 19 rfl fun K hK=>?_;go_simp;refine(OW1.out _ B.out).mono ?_;rintro e3 v5 ⟨rfl,hb⟩;replace B:=qD (B.out.Jp hb);clear hb
  (try go_wp2_with fail)
  clear hHeld;refine hK.out _ _ ?_ fun hHeld=>?_
  ·(try dsimp only);exact KSS.out _ B.out
  clear hK K
  try go_frame
  refine rU 20 rfl ?_
  try go_frame
  refine rU 21 rfl ?_
  try go_frame
  refine rU 22 rfl ?_
  try go_frame
  refine rU 23 rfl ?_
  try go_frame
  refine rY 24 rfl fun K hK=>?_;go_simp;refine(OW0.out _ B.out).mono ?_;rintro e3 v6 ⟨rfl,hb⟩;replace B:=qD (B.out.Jp hb);clear hb
  (try go_wp2_with fail)
  clear hHeld;refine hK.out _ _ ?_ fun hHeld=>?_
  ·(try dsimp only);exact KSS.out _ B.out
  clear hK K
  try go_frame
  refine rU 25 rfl ?_
  try go_frame
  refine rU 26 rfl ?_
  try go_frame
  refine rU 27 rfl ?_
  try go_frame
  refine rU 28 rfl ?_
  try go_frame
  refine rY 29 rfl fun K hK=>?_;go_simp;refine(CK0.out _ B.out).mono ?_;rintro e3 v7 ⟨rfl,hb⟩;replace B:=qD (B.out.Jp hb);clear hb
  (try go_wp2_with fail)
  clear hHeld;refine hK.out _ _ ?_ fun hHeld=>?_
  ·(try dsimp only);exact KSS.out _ B.out
  clear hK K
  try go_frame
  refine rU 30 rfl ?_
  try go_frame
  refine rU 31 rfl ?_
  try go_frame
  refine rU 32 rfl ?_
  try go_frame
  refine rU 33 rfl ?_
  try go_frame
  refine rY 34 rfl fun K hK=>?_;go_simp;refine(CK1.out _ B.out).mono ?_;rintro e3 v8 ⟨rfl,hb⟩;replace B:=qD (B.out.Jp hb);clear hb
  (try go_wp2_with fail)
  clear hHeld;refine hK.out _ _ ?_ fun hHeld=>?_
  ·(try dsimp only);exact KSS.out _ B.out
  clear hK K
  try go_frame
  refine rU 35 rfl ?_
  try go_frame
  refine rU 36 rfl ?_
  try go_frame
  refine rU 37 rfl ?_
  try go_frame
  refine rU 38 rfl ?_
  try go_frame
  refine rY 39 rfl fun K hK=>?_;go_simp;refine(nP 3 v8).mono ?_;rintro e3 v9 ⟨d1,rfl,hd,hb⟩;have D1:=qD hd;clear hd;replace B:=qD (B.out.Jp hb);clear hb
  (try go_wp2_with fail)
  clear hHeld;refine hK.out _ _ ?_ fun hHeld=>?_
  ·(try dsimp only);exact KSS.out _ B.out
  clear hK K
  try go_frame
  refine rY 40 rfl fun K hK=>?_;go_simp;refine(nP 11 v9).mono ?_;rintro e3 v10 ⟨d2,rfl,hd,hb⟩;have D2:=qD hd;replace D1:=qD (D1.out.step hb);clear hd;replace B:=qD (B.out.Jp hb);clear hb
  (try go_wp2_with fail)
  clear hHeld;refine hK.out _ _ ?_ fun hHeld=>?_
  ·(try dsimp only);exact KSS.out _ B.out
  clear hK K
  try go_frame
  refine rY 41 rfl fun K hK=>?_;go_simp;change K _ (v10.alloc (.cells (aJ bv [(cD d1,vD 3),(cD d2,vD 11)]).toArray 29));have G3:Hid (aE (v10.alloc (.cells (aJ bv [(cD d1,vD 3),(cD d2,vD 11)]).toArray 29)) v10.heap.size 29 (aJ bv [(cD d1,vD 3),(cD d2,vD 11)]).toArray):=aE.Jq rfl;replace B:=qD (B.out.alloc B.out.size (Obj.cells (aJ bv [(cD d1,vD 3),(cD d2,vD 11)]).toArray 29));replace D1:=qD (D1.out.alloc (.cells (aJ bv [(cD d1,vD 3),(cD d2,vD 11)]).toArray 29));replace D2:=qD (D2.out.alloc (.cells (aJ bv [(cD d1,vD 3),(cD d2,vD 11)]).toArray 29));generalize v10.alloc (.cells (aJ bv [(cD d1,vD 3),(cD d2,vD 11)]).toArray 29)=v11 at*;generalize v10.heap.size=g3 at*;clear hHeld;refine hK.out _ _ ?_ fun hHeld=>?_
  ·(try dsimp only);exact KSS.out _ B.out
  clear hK K
  try go_frame
  refine rY 42 rfl fun K hK=>?_;have HON:=Fi fU (⟨some ⟨go,0,none⟩,1,1,some ⟨gc,0,none⟩,2,2⟩:RA) 1 [(cD d1,vD 3),(cD d2,vD 11)] (some ⟨g3,0,none⟩) 2 2 v11 (HT.out.step (Z9.out.Jp B.out)) (RRR.out.step B.out) (Dt G3.out rfl (by show 2*80<=aF;decide) (by intro p hp;simp only[Li,List.not_mem_nil,or_false] at hp;rcases hp with rfl|rfl<;>first|exact Fe D1.out|exact Fe D2.out)) (by decide) (by omega);rw[show [(cD d1,vD 3),(cD d2,vD 11)].map Prod.snd=[vD 3,vD 11] from rfl,Fl] at HON;have HO:=qD HON;clear HON;go_simp;refine(HO.out).mono ?_;rintro e3 v12 ⟨A9,m9,c9,qs,rfl,hq,hsl,hb⟩;obtain rfl:m9=1:=by have h1:=hsl.sr.ln;have h2:=congrArg List.length hq;simp at h2;omega
  clear hq hsl;replace B:=qD (B.out.Jp hb);clear hb
  (try go_wp2_with fail)
  clear hHeld;refine hK.out _ _ ?_ fun hHeld=>?_
  ·(try dsimp only);exact KSS.out _ B.out
  clear hK K
  try go_frame
  refine rU 43 rfl ?_
  try go_frame
  refine rU 44 rfl ?_
  try go_frame
  refine rU 45 rfl ?_
  try go_frame
  refine rU 46 rfl ?_
  try go_frame
  refine rD ?_ _;refine Mf ?_
  all_goals
   go_wp2_with fail;go_ret;exact⟨rfl,Z9.out.Jp B.out⟩
theorem Du{l:List Ch}{j:Nat}{x y:Ch}(hx:l[j]?=some x)(hy:l[j+1]?=some y):eR (l.drop j)=((y.lo.toList==x.hi.toList)&&!(Op.bytesLess y.lo.toList x.lo.toList||y.lo.toList==x.lo.toList)&&eR (l.drop (j+1))):=by
 rw[bM hx,bM hy,eR]
theorem td(R:Ro)(a:RA)(w:World)(h:RR w a R):Calls prog 40 #[ft a R] w fun e w'=>e=.returned (.int .i64 (dD R))/\Below w.heap.size w w':=by
 obtain⟨KA,kn,kc,CA,cn,cc⟩:=a;have H:=qD h;have hn:Hid (cn=R.cs.length):=h.cs.ln;have hcz:cn*56<=aF:=h.cs.sz;have hlc:cn<=cc:=h.cs.sr.lc;have hkn:cn<=140737488355328:=by unfold aF at hcz;omega
 have HLC:=qD hlc;clear h hcz hlc;have B0:Hid (aE (w.alloc (.cells (bW ⟨KA,kn,kc,CA,cn,cc⟩ R) 53)) w.heap.size 53 (bW ⟨KA,kn,kc,CA,cn,cc⟩ R)):=aE.Jq rfl;have BE:Hid (Below w.heap.size w (w.alloc (.cells (bW ⟨KA,kn,kc,CA,cn,cc⟩ R) 53))):=(LH _ _).alloc (qL) _;go_enter func40,ntmps40;go_upto_region 1 with fail
 change (Code.region 1 _ _).wp _ _ _ (w.alloc (.cells (bW ⟨KA,kn,kc,CA,cn,cc⟩ R) 53));generalize w.alloc (.cells (bW ⟨KA,kn,kc,CA,cn,cc⟩ R) 53)=wa at*;obtain⟨q0,q1,q2,q3,q4,q5,qz⟩:=dJ B0.out;simp only at q1 q5;go_wp2_with fail;clear q0 q1 q2 q3 q4 q5 qz;refine(gi R.sp wa).mono ?_;rintro e w1 ⟨rfl,rfl⟩;have D0:=B0;have DE:=BE;clear B0 BE;cases hnm:aN R.sp
 ·have HF:Hid (dD R=9):=by unfold Hid dD;rw[LZ hnm]
  go_wp2_with fail;go_ret;exact⟨by rw[HF.out];rfl,DE.out⟩
 obtain⟨q0,q1,q2,q3,q4,q5,qz⟩:=dJ D0.out;simp only at q1 q5;go_wp2_with fail;clear q0 q1 q2 q3 q4 q5 qz;refine(qt R.ks R.ha KA kn kc w1 (H.out.ks.step DE.out)).mono ?_;rintro e w2 ⟨rfl,hb2⟩;have F0:=qD (D0.out.step hb2);have FE:=qD (DE.out.Jp hb2);clear hb2 D0 DE;by_cases hke:gO R.ks R.ha=0;rotate_left
 ·have HF:Hid (dD R=gO R.ks R.ha):=by unfold Hid dD;rw[LU (by simp[hnm]),LZ hke]
  have hke':(gO R.ks R.ha != 0)=true:=by simpa using hke
  go_wp2_with fail;go_ret;exact⟨by rw[HF.out];rfl,FE.out⟩
 have HV:Hid (dD R=if 64<R.cs.length then 2 else if R.ep<1\/R.ver<1 then 1 else if R.cs.any (jF R.ver) then 1 else if kF R.cs=false then 4 else if eR R.cs=false then 4 else 0):=by
  unfold Hid dD;rw[LU (by simp[hnm]),LU (by simpa using hke)]
 rw[hke];clear hke hnm;obtain⟨q0,q1,q2,q3,q4,q5,qz⟩:=dJ F0.out;simp only at q1 q5;by_cases h64:64<cn
 ·have HF:Hid (dD R=2):=by rw[Hid,HV.out,LZ (by rw[<-hn.out];exact h64)]
  go_wp2_with fail;go_ret;exact⟨by rw[HF.out];rfl,FE.out⟩
 have HV1:Hid (dD R=if R.ep<1\/R.ver<1 then 1 else if R.cs.any (jF R.ver) then 1 else if kF R.cs=false then 4 else if eR R.cs=false then 4 else 0):=by rw[Hid,HV.out,LU (by rw[<-hn.out];exact h64)]
 clear HV;by_cases hep:R.ep<1
 ·have HF:Hid (dD R=1):=by rw[Hid,HV1.out,LZ (.inl hep)]
  go_wp2_with fail;go_ret;exact⟨by rw[HF.out];rfl,FE.out⟩
 by_cases hve:R.ver<1
 ·have HF:Hid (dD R=1):=by rw[Hid,HV1.out,LZ (.inr hve)]
  go_wp2_with fail;go_ret;exact⟨by rw[HF.out];rfl,FE.out⟩
 have HV2:Hid (dD R=if R.cs.any (jF R.ver) then 1 else if kF R.cs=false then 4 else if eR R.cs=false then 4 else 0):=by rw[Hid,HV1.out,LU (by omega)]
 clear HV1;have HEP:=qD hep;have HVE:=qD hve;go_wp2_with fail;clear q0 q1 q2 q3 q4 q5 qz hep hve
 go_loopw [4] (fun v wr=>∃i:Nat,i<=cn/\v=.int .i64 i/\R.cs.any (jF R.ver)=(R.cs.drop i).any (jF R.ver)/\aE wr w.heap.size 53 (bW ⟨KA,kn,kc,CA,cn,cc⟩ R)/\Below w.heap.size w wr) (fun v _=>cn-(intOf v).toNat)
 ·exact⟨0,LQ _,rfl,rfl,F0.out,FE.out⟩
 case round=>
  obtain⟨i,hi,rfl,hany,hblk,hbel⟩:=hrel;have HA:=qD hany;have HB:=qD hbel;have HK:=qD hblk;clear hany;obtain⟨q0,q1,q2,q3,q4,q5,qz⟩:=dJ hblk;simp only at q1 q5;have hNl:=hblk.lt;by_cases hlt:i<cn
  ·obtain⟨b,off,x,hA,hb,hx,e0,e1,e2,e3,e4⟩:=H.out.cs.sr.Kk hlt;simp only at hA;subst hA;have HX:Hid ((R.cs.drop i).any (jF R.ver)=(jF R.ver x||(R.cs.drop (i+1)).any (jF R.ver))):=by rw[Hid,bM hx];rfl
   have g0:=(hbel.cell (p:=⟨b,off+i*5,none⟩) hb).trans e0;have g1:=(hbel.cell (p:=⟨b,off+i*5+1,none⟩) hb).trans e1;have g2:=(hbel.cell (p:=⟨b,off+i*5+2,none⟩) hb).trans e2;have g3:=(hbel.cell (p:=⟨b,off+i*5+3,none⟩) hb).trans e3;have g4:=(hbel.cell (p:=⟨b,off+i*5+4,none⟩) hb).trans e4;have hbw:b<wr.heap.size:=by have:=hbel.size;omega
   obtain⟨xlo,xhi,xsh,xver,xju⟩:=x;simp only at g0 g1 g2 g3 g4;have HBA:=qD (HB.out.alloc HB.out.size (Obj.cells #[.string xlo,.string xhi,.int .i64 xsh,.int .i64 xver,.bool xju] 92));have HKA:=qD (HK.out.alloc (.cells #[.string xlo,.string xhi,.int .i64 xsh,.int .i64 xver,.bool xju] 92));clear hx e0 e1 e2 e3 e4 hbel hblk;by_cases ha:xsh<0
   ·have HF:Hid (dD R=1):=by rw[Hid,HV2.out,LZ (by rw[HA.out,HX.out];unfold jF;rw[LN ha];simp)]
    go_wp2_with fail;go_ret;exact⟨by rw[HF.out];rfl,HBA.out⟩
   by_cases hb8:8<=xsh
   ·have HF:Hid (dD R=1):=by rw[Hid,HV2.out,LZ (by rw[HA.out,HX.out];unfold jF;rw[LN hb8,Pg];rfl)]
    go_wp2_with fail;go_ret;exact⟨by rw[HF.out];rfl,HBA.out⟩
   by_cases hc1:xver<1
   ·have HF:Hid (dD R=1):=by rw[Hid,HV2.out,LZ (by rw[HA.out,HX.out];unfold jF;rw[LN hc1,Pg];rfl)]
    go_wp2_with fail;go_ret;exact⟨by rw[HF.out];rfl,HBA.out⟩
   by_cases hd:R.ver<xver
   ·have HF:Hid (dD R=1):=by rw[Hid,HV2.out,LZ (by rw[HA.out,HX.out];unfold jF;rw[LN hd,Pg];rfl)]
    go_wp2_with fail;go_ret;exact⟨by rw[HF.out];rfl,HBA.out⟩
   have HN:Hid (R.cs.any (jF R.ver)=(R.cs.drop (i+1)).any (jF R.ver)):=by
    rw[Hid,HA.out,HX.out];unfold jF;rw[LW ha,LW hb8,LW hc1,LW hd];rfl
   go_wp2_with fail;go_roundw
   ·exact⟨i+1,by omega,by go_num,HN.out,HKA.out,HBA.out⟩
   ·simp[intOf];omega
  ·have HN:Hid (dD R=if kF R.cs=false then 4 else if eR R.cs=false then 4 else 0):=by
    rw[Hid,HV2.out,LU];rw[HA.out,La (by rw[<-hn.out];omega)];simp
   clear hbel hblk HV2 HA;obtain rfl:i=cn:=by omega
   by_cases hz:i=0
   ·have HF:Hid (dD R=4):=by
     have:R.cs=[]:=LO (by rw[<-hn.out];exact hz);rw[Hid,HN.out,LZ (by rw[this];rfl)]
    subst hz;go_wp2_with fail;go_ret;exact⟨by rw[HF.out];rfl,HB.out⟩
   have hz0:((i:Int)==0)=false:=by simp;omega
   have hzi:(0:Int)<(i:Int):=by omega
   obtain⟨b,off,x,hA,hb,hx,e0,_,_,_,_⟩:=H.out.cs.sr.Kk (i:=0) (by show 0<i;omega);simp only at hA;subst hA;have HX0:=qD hx;have g0:=(HB.out.cell (p:=⟨b,off+0*5,none⟩) hb).trans e0;simp only[OJ,Ms] at g0;cases hlo:(x.lo.toList==[])
   ·have HF:Hid (dD R=4):=by
     rw[Hid,HN.out,LZ]
     obtain⟨c,r,hcr⟩:∃c r,R.cs=c::r:=by
      cases hc:R.cs with
      | nil=>rw[hc] at hx;cases hx
      | cons c r=>exact⟨c,r,rfl⟩
     rw[hcr] at hx ⊢;simp at hx;subst hx;rw[kF,hlo];rfl
    clear hx e0;go_wp2_with fail;go_ret;exact⟨by rw[HF.out];rfl,HB.out⟩
   obtain⟨b',off',y,hA,_,hy,_,e1,_,_,_⟩:=H.out.cs.sr.Kk (i:=i-1) (by show i-1<i;omega);simp only at hA;injection hA with hA
   injection hA with hA1 hA2
   subst hA1 hA2;have HY0:=qD hy;have g1:=(HB.out.cell (p:=⟨b,off+(i-1)*5+1,none⟩) hb).trans e1;have hw1:IntKind.i64.wrap ((i:Int)-1)=(i:Int)-1:=by rw[QG];omega
   have hi1:(0:Int)<=(i:Int)-1:=by omega
   have hi2:(i:Int)-1<(i:Int):=by omega
   have hi3:((i:Int)-1).toNat=i-1:=by omega
   have HEN:Hid (kF R.cs=(y.hi.toList==[])):=by
    obtain⟨c,r,hcr⟩:∃c r,R.cs=c::r:=by
     cases hc:R.cs with
     | nil=>rw[hc] at hx;cases hx
     | cons c r=>exact⟨c,r,rfl⟩
    have hl:=hn.out;rw[hcr] at hx hy hl ⊢;simp at hx;subst hx;have hyl:(c::r).getLast?=some y:=by rw[OW,<-hy,hl]
    rw[Hid,kF,hlo,hyl];simp
   clear hx hy e0 e1;cases hhi:(y.hi.toList==[])
   ·have HF:Hid (dD R=4):=by rw[Hid,HN.out,LZ (by rw[HEN.out,hhi])]
    go_wp2_with fail;go_ret;exact⟨by rw[HF.out];rfl,HB.out⟩
   have HL:Hid (dD R=if eR R.cs=false then 4 else 0):=by rw[Hid,HN.out,LU (by rw[HEN.out,hhi];simp)]
   clear HN HEN;have hl1:Hid (eR R.cs=eR (R.cs.drop 0)):=rfl;by_cases hn1:i=1
   ·have HF:Hid (dD R=0):=by
     rw[Hid,HL.out,LU]
     obtain⟨c,hc⟩:∃c,R.cs=[c]:=by
      have:=hn.out;rw[hn1] at this
      match hcs:R.cs,this with
      | [c],_=>exact⟨c,rfl⟩
     rw[hc];simp[eR]
    subst hn1;go_wp2_with fail
    all_goals
     go_loopw [6] (fun v wr=>v=.int .i64 1/\aE wr w.heap.size 53 (bW ⟨KA,kn,kc,some ⟨b,off,none⟩,1,cc⟩ R)/\Below w.heap.size w wr) (fun _ _=>0)
     ·exact⟨rfl,HK.out,HB.out⟩
     case round=>
      obtain⟨rfl,hblk,hbel⟩:=hrel;obtain⟨q0,q1,q2,q3,q4,q5,qz⟩:=dJ hblk;simp only at q1 q5;go_wp2_with fail;go_ret;exact⟨by rw[HF.out];rfl,hbel⟩
   have hi22:2<=i:=by omega
   have hcc1:(cc=1)=False:=by simp;have:=HLC.out;omega
   have hcc2:(1:Int)<=(i:Int):=by omega
   go_wp2_with fail;clear q0 q1 q2 q3 q4 q5 qz hlo hhi g0 g1 hw1 hi1 hi2 hi3;obtain⟨wo,hwo⟩:∃wo:World,wo=wr:=⟨_,rfl⟩;rw[<-hwo] at HB HK ⊢;clear hwo
   go_loopw [6] (fun v wr=>∃j:Nat,j+1<=i/\v=.int .i64 ((j:Int)+1)/\eR R.cs=eR (R.cs.drop j)/\aE wr w.heap.size 53 (bW ⟨KA,kn,kc,some ⟨b,off,none⟩,i,cc⟩ R)/\Below w.heap.size w wr) (fun v _=>i-(intOf v).toNat)
   ·exact⟨0,by omega,rfl,rfl,HK.out,HB.out⟩
   case round=>
    obtain⟨j,hj,rfl,hlk,hblk,hbel⟩:=hrel;have HLK:=qD hlk;have HB2:=qD hbel;have HK2:=qD hblk;clear hlk;obtain⟨q0,q1,q2,q3,q4,q5,qz⟩:=dJ hblk;simp only at q1 q5;have hNl:=hblk.lt;by_cases hjl:j+1<i
    ·obtain⟨b1,off1,x,hA,hbb,hx,e0,e1,_,_,_⟩:=H.out.cs.sr.Kk (i:=j) (by show j<i;omega);simp only at hA;injection hA with hA
     injection hA with hA1 hA2
     subst hA1 hA2;obtain⟨b1,off1,y,hA,_,hy,f0,f1,f2,f3,f4⟩:=H.out.cs.sr.Kk (i:=j+1) hjl;simp only at hA;injection hA with hA
     injection hA with hA1 hA2
     subst hA1 hA2;have HX:=qD (Du hx hy);replace e0:=(hbel.cell (p:=⟨b,off+j*5,none⟩) hbb).trans e0;replace e1:=(hbel.cell (p:=⟨b,off+j*5+1,none⟩) hbb).trans e1;replace f0:=(hbel.cell (p:=⟨b,off+(j+1)*5,none⟩) hbb).trans f0;clear f1 f2 f3 f4;have hbw:b<wr.heap.size:=by have:=hbel.size;omega
     obtain⟨xlo,xhi,xsh,xver,xju⟩:=x;obtain⟨ylo,yhi,ysh,yver,yju⟩:=y;simp only at e0 e1 f0;simp only at HX;have j0:(0:Int)<=(j:Int):=by omega
     have j1:(j:Int)<(i:Int):=by omega
     have j2:(j:Int)+1<(i:Int):=by omega
     have j3:((j:Int)+1).toNat=j+1:=by omega
     have j4:(0:Int)<=(j:Int)+1:=by omega
     have j5:IntKind.i64.wrap ((j:Int)+1-1)=(j:Int):=by rw[QG];omega
     have j6:IntKind.i64.wrap (j:Int)=(j:Int):=by rw[QG];omega
     have j7:(j:Int)<(i:Int)-1:=by omega
     clear hx hy hbel hblk;go_upto_region 21 with fail
     have X0:∀kk:BW wr,kk.val.cell? ⟨w.heap.size,5,none⟩=some (.slice (some ⟨b,off,none⟩) i cc):=fun kk=>kk.cell (dJ HK2.out).2.2.2.2.2.1;have X1:∀kk:BW wr,kk.val.cell? ⟨b,off+(j+1)*5,none⟩=some (.string ylo):=fun kk=>kk.cell f0;have X2:∀kk:BW wr,kk.val.cell? ⟨b,off+j*5,none⟩=some (.string xlo):=fun kk=>kk.cell e0;have X3:∀kk:BW wr,kk.val.cell? ⟨b,off+j*5+1,none⟩=some (.string xhi):=fun kk=>kk.cell e1;clear q0 q1 q2 q3 q4 q5 qz e0 e1 f0;cases hq:(ylo.toList==xhi.toList);rotate_left;cases hr:Op.bytesLess ylo.toList xlo.toList;cases hs:(ylo.toList==xlo.toList)
     all_goals
      refine aL (by kernel_rfl) (by kernel_rfl) ?_
      repeat(go_big_quiet_step (fail))
      refine Ln ?_;rintro _ ⟨kw,rfl⟩;have HKW:=qD kw.below;generalize kw.val=w5 at*;clear X0 X1 X2 X3
     rotate_left
     case' false|true.true|true.false.true=>
      have HF:Hid (dD R=4):=by rw[Hid,HL.out,LZ (by rw[HLK.out,HX.out];first|(rw[hq,hr,hs];rfl)|(rw[hq,hr];rfl)|(rw[hq];rfl))]
      go_wp2_with fail;go_ret;exact⟨by rw[HF.out];rfl,HB2.out.Jp HKW.out⟩
     all_goals
      have HF:Hid (eR R.cs=eR (R.cs.drop (j+1))):=by rw[Hid,HLK.out,HX.out,hq,hr,hs];rfl
      go_wp2_with fail;go_roundw
      ·exact⟨j+1,by omega,by go_num,HF.out,HK2.out.step HKW.out,HB2.out.Jp HKW.out⟩
      ·simp[intOf];omega
    ·have HF:Hid (dD R=0):=by
      rw[Hid,HL.out,LU];rw[HLK.out]
      obtain⟨c,hc⟩:∃c,R.cs.drop j=[c]:=by
       have hl:=Nz (l:=R.cs) (i:=j);rw[<-hn.out] at hl
       match hcs:R.cs.drop j,(show(R.cs.drop j).length=1 by omega) with
       | [c],_=>exact⟨c,rfl⟩
      rw[hc];simp[eR]
     clear hbel hblk;have j8:¬(j:Int)<(i:Int)-1:=by omega
     have j9:¬(j:Int)+1<(i:Int):=by omega
     go_wp2_with fail;go_ret;exact⟨by rw[HF.out];rfl,HB2.out⟩
noncomputable def oX(x:aC):Bool:=!(x.k==5) || !(aO x)
noncomputable def mj(R:Ro)(l:List aC):Bool:=decide (l.length<=40)&&(decide (dD R=0)&&decide (eo oX l<0))
theorem Dv(R:Ro):mj R []=decide (dD R=0):=by
 unfold mj;rw[show eo oX []=-1 from rfl,LN (show(-1:Int)<0 by decide),LN (show([]:List aC).length<=40 by decide),Bool.and_true,QC]
theorem Bl(x:aC)(c:VC)(w:World)(h:RW w c x):Calls prog 42 #[c.val] w fun e w'=>e=.returned (.bool (oX x))/\Below w.heap.size w w':=by
 have hck:c.k=x.k:=h.open.k;have HV:=qD fun(wr:World) (hb:Below w.heap.size w wr)=>eW x c wr (h.step hb);have BE:=qD ((LH w.heap.size w).alloc (qL) (Obj.cells c.arr 29));have B0:Hid (aE (w.alloc (.cells c.arr 29)) w.heap.size 29 c.arr):=aE.Jq rfl;have HB:Hid (oX x=(!(c.k==5) || !(aO x))):=by unfold Hid oX;rw[hck]
 clear h hck;by_cases hk:c.k=5
 ·have HF:Hid ((!(c.k==5))=false):=by rw[Hid,hk];rfl
  have hk2:(c.k != 5)=false:=by rw[hk];rfl
  have HB2:Hid (oX x=!(aO x)):=by rw[Hid,HB.out,HF.out,Bool.false_or]
  clear hk HF HB;go_enter func42,ntmps42;go_upto_region 1 with fail
  change Code.wp _ _ _ _ (w.alloc (.cells c.arr 29));generalize w.alloc (.cells c.arr 29)=wa at*;obtain⟨a0,a1,a2,a3,a4⟩:=bS.Jr B0.out;simp only[LL] at a0 a1 a2 a3 a4;go_wp2_with fail;refine(HV.out _ BE.out).mono ?_;rintro e w1 ⟨rfl,hb⟩;have CE:=qD (BE.out.Jp hb);clear hb;cases hv:aO x
  ·rw[hv] at HB2;clear hv;go_wp2_with fail;go_ret;exact⟨by rw[HB2.out];rfl,CE.out⟩
  ·rw[hv] at HB2;clear hv;go_wp2_with fail;go_ret;exact⟨by rw[HB2.out];rfl,CE.out⟩
 ·have hk2:(c.k != 5)=true:=by simpa using hk
  have HB2:Hid (oX x=true):=by rw[Hid,HB.out,show(c.k==5)=false by simpa using hk];rfl
  clear hk HB;go_enter func42,ntmps42;go_upto_region 1 with fail
  change Code.wp _ _ _ _ (w.alloc (.cells c.arr 29));generalize w.alloc (.cells c.arr 29)=wa at*;obtain⟨a0,a1,a2,a3,a4⟩:=bS.Jr B0.out;simp only[LL] at a0 a1 a2 a3 a4;go_wp2_with fail;go_ret;exact⟨by rw[HB2.out];rfl,BE.out⟩
theorem yq(f:FuncId)(p:aC->Bool)(ps:List PV)(A:Option Addr)(n c:Nat)(w:World)(h:SL (fun _=>True) w A n c ps)(hent:∀args w,(callFunc f args).run prog w=.ok (.enter f args) w)(hs:∀(q:PV) (wr:World),RW wr q.1 q.2->Calls prog f #[q.1.val] wr fun e w'=>e=.returned (.bool (p q.2))/\Below wr.heap.size wr w'):
 Calls prog 109 #[.slice A n c,.func (.func f) #[] #[]] w fun e w'=>e=.returned (.int .i64 (eo p (ps.map Prod.snd)))/\Below w.heap.size w w':=by
 have hz:n<=140737488355328:=by have:=h.sz;unfold aF at this;omega
 have H:=qD h;have HS:=qD hs;clear h hs;go_enter func109,ntmps109;go_wp2_with fail
 go_loopw [8] (fun v wr=>∃i:Nat,i<=n/\v=.int .i64 i/\eo p (ps.map Prod.snd)=dU p ((ps.map Prod.snd).drop i) i/\Below w.heap.size w wr) (fun v _=>n-(intOf v).toNat)
 ·exact⟨0,LQ _,rfl,rfl,LH _ _⟩
 case round=>
  obtain⟨i,hi,rfl,ha,hbel⟩:=hrel;have HA:=qD ha;have HB:=qD hbel;clear ha;by_cases hlt:i<n
  ·obtain⟨q,hq⟩:∃q,ps[i]?=some q:=⟨_,LI (by have:=H.out.sr.ln;omega)⟩;obtain⟨b,off,hA,_,hat,hrv⟩:=H.out.KE hq;subst hA;have HX:=qD (lZ (p:=p) (l:=ps.map Prod.snd) (i:=i) (x:=q.2) (by rw[LV,hq];rfl));have HR:=qD (hrv.step hbel);obtain⟨g0,g1,g2,g3,g4⟩:=hat.keep (hbel.block b hat.lt);clear hq hat hrv hbel;go_wp2_with fail;refine(HS.out q _ HR.out).mono ?_;rintro e w1 ⟨rfl,hb1⟩;have HB1:=qD (HB.out.Jp hb1);clear hb1 g0 g1 g2 g3 g4;cases hq:p q.2
   ·have HF:Hid (eo p (ps.map Prod.snd)=dU p ((ps.map Prod.snd).drop (i+1)) (i+1)):=by rw[Hid,HA.out,HX.out,hq];rfl
    go_wp2_with fail;go_roundw
    ·exact⟨i+1,by omega,by go_num,HF.out,HB1.out⟩
    ·simp[intOf];omega
   ·have HF:Hid (eo p (ps.map Prod.snd)=(i:Int)):=by rw[Hid,HA.out,HX.out,hq];rfl
    go_wp2_with fail;go_ret;exact⟨by rw[HF.out];rfl,HB1.out⟩
  ·have HF:Hid (eo p (ps.map Prod.snd)=-1):=by rw[Hid,HA.out];exact kG (by have:=H.out.sr.ln;rw[Lb];omega)
   clear hbel;go_wp2_with fail;go_ret;exact⟨by rw[HF.out];rfl,HB.out⟩
theorem qy(ps:List PV)(A:Option Addr)(n c:Nat)(w:World)(h:SL (fun _=>True) w A n c ps):
 Calls prog 41 #[.slice A n c,.func (.func 42) #[] #[]] w fun e w'=>e=.returned (.bool (decide (0<=eo oX (ps.map Prod.snd))))/\Below w.heap.size w w':=by
 obtain⟨Z,hZ⟩:∃Z:Int,eo oX (ps.map Prod.snd)=Z:=⟨_,rfl⟩;have hI:=yq 42 oX ps A n c w h (fun _ _=>rfl) (fun q wr hr=>Bl q.2 q.1 wr hr);rw[hZ] at hI ⊢;have HI:=qD hI;clear hI hZ h;go_enter func41,ntmps41;go_wp2_with fail;refine HI.out.mono ?_;rintro e w1 ⟨rfl,hb1⟩;have CE:=qD hb1;clear hb1 HI;go_wp2_with fail;go_ret;exact⟨rfl,CE.out⟩
theorem Dw(R:Ro)(a:RA)(ps:List PV)(A:Option Addr)(n cc:Nat)(w:World)(h:RR w a R)(hp:SL (fun _=>True) w A n cc ps):
 Calls prog 13 #[ft a R,.slice A n cc] w fun e w'=>e=.returned (.bool (mj R (ps.map Prod.snd)))/\Below w.heap.size w w':=by
 have HV:=qD fun(wr:World) (hb:Below w.heap.size w wr)=>td R a wr (h.step hb);have HC:=qD fun(wr:World) (hb:Below w.heap.size w wr)=>qy ps A n cc wr (hp.step hb);have hnl:(ps.map Prod.snd).length=n:=by rw[Lb];exact hp.sr.ln.symm
 obtain⟨KA,kn,kc,CA,cn,cz⟩:=a;have B0:Hid (aE (w.alloc (.cells (bW ⟨KA,kn,kc,CA,cn,cz⟩ R) 53)) w.heap.size 53 (bW ⟨KA,kn,kc,CA,cn,cz⟩ R)):=aE.Jq rfl;have BE:=qD ((LH w.heap.size w).alloc (qL) (Obj.cells (bW ⟨KA,kn,kc,CA,cn,cz⟩ R) 53));have HF:Hid (mj R (ps.map Prod.snd)=(decide (n<=40)&&(decide (dD R=0)&&decide (eo oX (ps.map Prod.snd)<0)))):=by unfold Hid mj;rw[hnl]
 obtain⟨Z,hZ⟩:∃Z:Int,eo oX (ps.map Prod.snd)=Z:=⟨_,rfl⟩;obtain⟨E,hE⟩:∃E:Int,dD R=E:=⟨_,rfl⟩;rw[hZ,hE] at HF;rw[hZ] at HC;rw[hE] at HV;clear h hp hnl hZ hE;go_enter func13,ntmps13;go_upto_region 1 with fail
 change Code.wp _ _ _ _ (w.alloc (.cells (bW ⟨KA,kn,kc,CA,cn,cz⟩ R) 53));generalize w.alloc (.cells (bW ⟨KA,kn,kc,CA,cn,cz⟩ R) 53)=wa at*;obtain⟨q0,q1,q2,q3,q4,q5,qz⟩:=dJ B0.out;simp only at q1 q5;by_cases hn:n<=40
 ·have hn1:(n:Int)<=40:=by omega
  have HF1:Hid (mj R (ps.map Prod.snd)=(decide (E=0)&&decide (Z<0))):=by rw[Hid,HF.out,LN hn,QC]
  clear hn HF;go_wp2_with fail;refine(HV.out _ BE.out).mono ?_;rintro e w1 ⟨rfl,hb⟩;have CE:=qD (BE.out.Jp hb);clear hb q0 q1 q2 q3 q4 q5 qz;by_cases he:E=0
  ·have heb:(E==0)=true:=by simpa using he
   have HF2:Hid (mj R (ps.map Prod.snd)=decide (Z<0)):=by rw[Hid,HF1.out,LN he,QC]
   clear he HF1;go_wp2_with fail;refine(HC.out _ CE.out).mono ?_;rintro e w2 ⟨rfl,hb⟩;have DE:=qD (CE.out.Jp hb);clear hb
   have HZ:Hid ((!decide (0<=Z))=decide (Z<0)):=by
    unfold Hid;by_cases hz:Z<0
    ·rw[LN hz,LW (by omega)];rfl
    ·rw[LW hz,LN (by omega)];rfl
   obtain⟨zb,hzb⟩:∃zb:Bool,decide (0<=Z)=zb:=⟨_,rfl⟩;rw[hzb] at HZ ⊢;clear hzb;go_wp2_with fail;go_ret;exact⟨by rw[HF2.out,<-HZ.out];rfl,DE.out⟩
  ·have heb:(E==0)=false:=by simpa using he
   have HF2:Hid (mj R (ps.map Prod.snd)=false):=by rw[Hid,HF1.out,LW he,QO]
   clear he HF1;go_wp2_with fail;go_ret;exact⟨by rw[HF2.out];rfl,CE.out⟩
 ·have hn1:(40:Int)<n:=by omega
  have HF1:Hid (mj R (ps.map Prod.snd)=false):=by rw[Hid,HF.out,LW hn,QO]
  clear hn HF;go_wp2_with fail;go_ret;exact⟨by rw[HF1.out];rfl,BE.out⟩
structure yr{α:Type}(lt:α->α->Prop):Prop where
 irr:∀a,¬lt a a
 tr:∀{a b c},lt a b->lt b c->lt a c
 tot:∀a b,lt a b\/a=b\/lt b a
section
variable {α:Type} {lt:α->α->Prop}
def ja(lt:α->α->Prop)(l:List (α×α)):Prop:=l.Pairwise fun x y=>lt x.1 y.1
theorem ja.unique(o:yr lt):∀{l m:List (α×α)},ja lt l->ja lt m->(∀x,x∈l↔x∈m)->l=m
 | [],[],_,_,_=>rfl
 | [],y::s,_,_,h=>by have:=(h y).2 (by simp);simp at this
 | x::r,[],_,_,h=>by have:=(h x).1 (by simp);simp at this
 | x::r,y::s,hl,hm,h=>by
  obtain⟨h1,h2⟩:=Mi.1 hl;obtain⟨k1,k2⟩:=Mi.1 hm
  have e:x=y:=by
   rcases Li.1 ((h x).1 (by simp)) with e|hx
   ·exact e
   ·rcases Li.1 ((h y).2 (by simp)) with e|hy
    ·exact e.symm
    ·exact absurd (o.tr (k1 x hx) (h1 y hy)) (o.irr _)
  subst e
  have:r=s:=ja.unique o h2 k2 fun z=>by
   constructor
   ·intro hz;rcases Li.1 ((h z).1 (by simp[hz])) with e|hz'
    ·subst e;exact absurd (h1 _ hz) (o.irr _)
    ·exact hz'
   ·intro hz;rcases Li.1 ((h z).2 (by simp[hz])) with e|hz'
    ·subst e;exact absurd (k1 _ hz) (o.irr _)
    ·exact hz'
  rw[this]
structure Fo(lt:α->α->Prop)(l:List (α×α))(x:α×α)(k:Nat):Prop where
 le:k<=l.length
 low:∀i y,i<k->l[i]?=some y->lt y.1 x.1
 high:∀y,l[k]?=some y->¬lt y.1 x.1
theorem Fo.insert(o:yr lt){l:List (α×α)}{x:α×α}{k:Nat}(h:Fo lt l x k)(hl:ja lt l)(hf:∀y∈l,y.1=x.1->y=x)(hn:l[k]?≠some x):
 ja lt (l.take k++x::l.drop k):=by
 have hd:∀y∈l.drop k,lt x.1 y.1:=by
  intro y hy;cases e:l[k]? with
  | none=>
   have:=Pm.1 e;rw[Nl (by omega)] at hy;simp at hy
  | some z=>
   have hk:=(LJ.1 e).1;have hz:=(LJ.1 e).2;have hzl:z∈l:=LP e
   have h1:lt x.1 z.1:=by
    rcases o.tot x.1 z.1 with h1|h1|h1
    ·exact h1
    ·have:=hf z hzl h1.symm;subst this;exact absurd e hn
    ·exact absurd h1 (h.high z e)
   rw[Mo hk,hz] at hy;rcases Li.1 hy with rfl|hy
   ·exact h1
   ·have hp:ja lt (l.drop k):=PL (List.drop_sublist k l) hl;rw[Mo hk,hz] at hp;exact o.tr h1 ((Mi.1 hp).1 y hy)
 have hlow:∀y∈l.take k,lt y.1 x.1:=by
  intro y hy;obtain⟨i,hi,e⟩:=PX.1 hy;have hik:i<k:=by have:=hi;rw[Lx] at this;omega
  have hil:i<l.length:=by have:=h.le;omega
  rw[List.getElem_take] at e;exact h.low i y hik (LJ.2 ⟨hil,e⟩)
 refine Le.2 ⟨PL (List.take_sublist k l) hl,Mi.2 ⟨hd,PL (List.drop_sublist k l) hl⟩,?_⟩;intro y hy z hz;rcases Li.1 hz with rfl|hz
 ·exact hlow y hy
 ·exact o.tr (hlow y hy) (hd z hz)
theorem yt{l:List (α×α)}{x:α×α}{k:Nat}(y:α×α):y∈l.take k++x::l.drop k↔y∈l\/y=x:=by
 rw[LY,Li];have e:y∈l↔y∈l.take k\/y∈l.drop k:=by rw[<-LY,Lf]
 rw[e];constructor
 ·rintro(h|h|h)
  ·exact .inl (.inl h)
  ·exact .inr h
  ·exact .inl (.inr h)
 ·rintro((h|h)|h)
  ·exact .inl h
  ·exact .inr (.inr h)
  ·exact .inr (.inl h)
set_option linter.unusedSectionVars false
variable [DecidableEq α]
def oD(e:α)(out:List (α×α))(r:α×α):List (α×α):=match out.getLast? with
 | none=>out++[r]
 | some q=>if q.2≠e/\q.2=r.1 then out.dropLast++[(q.1,r.2)] else out++[r]
def dm(e:α)(l:List (α×α)):List (α×α):=l.foldl (oD e) []
theorem nQ{e:α}{out:List (α×α)}{q r:α×α}{n:Nat}(hn:out.length=n+1)(hq:out[n]?=some q)(h1:q.2≠e)(h2:q.2=r.1):oD e out r=out.set n (q.1,r.2):=by
 have hl:out.getLast?=some q:=by rw[OW,hn];exact hq
 obtain⟨d,rfl⟩:=List.getLast?_eq_some_iff.1 hl;have hd:d.length=n:=by simpa using hn
 unfold oD;rw[hl];simp only;rw[LZ ⟨h1,h2⟩,PY,<-hd];simp
theorem jN{e:α}{out:List (α×α)}{r:α×α}(h:∀q,out[out.length-1]?=some q->¬(q.2≠e/\q.2=r.1)):oD e out r=out++[r]:=by
 unfold oD;cases hq:out.getLast? with
 | none=>rfl
 | some q=>
  rw[OW] at hq;simp only;rw[LU (h q hq)]
theorem ef{e:α}{l:List (α×α)}{r:α×α}{i:Nat}(h:l[i]?=some r):dm e (l.take (i+1))=oD e (dm e (l.take i)) r:=by
 unfold dm;rw[MW,h,Option.toList_some,Pu];rfl
theorem Bm(e:α)(out:List (α×α))(r:α×α):(oD e out r).length<=out.length+1:=by
 unfold oD;split
 ·simp
 ·split
  ·simp
  ·simp
theorem vl(e:α)(l:List (α×α))(i:Nat):(dm e (l.take i)).length<=i:=by
 induction i with
 | zero=>simp[dm]
 | succ i ih=>
  cases h:l[i]? with
  | none=>
   have hl:=Pm.1 h;rw[LS (by omega)];rw[LS hl] at ih;omega
  | some r=>
   rw[ef h];have:=Bm e (dm e (l.take i)) r;omega
def eZ:List (α×α)->List (α×α)
 | []=>[]
 | x::r=>match eZ r with
  | []=>[x]
  | y::s=>if x=y then y::s else x::y::s
theorem pq:∀{l:List (α×α)} (x:α×α),x∈eZ l↔x∈l
 | [],x=>Iff.rfl
 | a::r,x=>by
  have ih:=pq (l:=r) x;unfold eZ;cases hr:eZ r with
  | nil=>rw[hr] at ih;simp only[Li,<-ih]
  | cons y s=>
   rw[hr] at ih;simp only;by_cases h:a=y
   ·rw[LZ h,Li (a:=x) (b:=a),<-ih,h,Li];constructor
    ·intro k;exact .inr k
    ·rintro(k|k)
     ·exact .inl k
     ·exact k
   ·rw[LU h,Li (a:=x) (b:=a),ih,Li (a:=x) (b:=a) (l:=r)]
theorem vm(o:yr lt):∀{l:List (α×α)},l.Pairwise (fun x y=>¬lt y.1 x.1)->(∀x∈l,∀y∈l,x.1=y.1->x=y)->ja lt (eZ l)
 | [],_,_=>List.Pairwise.nil
 | a::r,h,hf=>by
  obtain⟨h1,h2⟩:=Mi.1 h;have ih:=vm o h2 fun x hx y hy=>hf x (by simp[hx]) y (by simp[hy]);unfold eZ;cases hr:eZ r with
  | nil=>exact List.pairwise_singleton _ _
  | cons y s=>
   rw[hr] at ih;have hm:∀z,z∈y::s->z∈r:=fun z hz=>(pq z).1 (hr▸hz);simp only;by_cases e:a=y
   ·rw[LZ e];exact ih
   ·rw[LU e]
    have hay:lt a.1 y.1:=by
     have hy:=hm y (by simp);rcases o.tot a.1 y.1 with k|k|k
     ·exact k
     ·exact absurd (hf a (by simp) y (by simp[hy]) k) e
     ·exact absurd k (h1 y hy)
    refine Mi.2 ⟨fun z hz=>?_,ih⟩;rcases Li.1 hz with rfl|hz
    ·exact hay
    ·exact o.tr hay ((Mi.1 ih).1 z hz)
theorem Dx(o:yr lt){l out:List (α×α)}{x:α×α}{k:Nat}(h:Fo lt l x k)(hl:ja lt l)(hf:∀y∈l,y.1=x.1->y=x)(he:out=if l[k]?=some x then l else l.take k++x::l.drop k):ja lt out/\∀y,y∈out↔y∈l\/y=x:=by
 subst he;split
 ·rename_i e
  refine⟨hl,fun y=>⟨.inl,?_⟩⟩;rintro(k|rfl)
  ·exact k
  ·exact LP e
 ·rename_i e
  exact⟨h.insert o hl hf e,fun y=>yt y⟩
theorem vn(o:yr lt){xs l m S:List (α×α)}(hl:ja lt l)(h1:∀y,y∈l↔y∈xs)(hS:∀y,y∈S↔y∈xs)(hp:S.Pairwise fun x y=>¬lt y.1 x.1)(hf:∀x∈xs,∀y∈xs,x.1=y.1->x=y)(hm:m=eZ S):l=m:=by
 subst hm;refine hl.unique o (vm o hp fun x hx y hy=>hf x ((hS x).1 hx) y ((hS y).1 hy)) fun y=>?_;rw[h1,pq,hS]
end
section
variable {α:Type} {cm:α->α->Int} {V:α->Prop}
def yu(cm:α->α->Int)(V:α->Prop)(S:α->Prop)(a:α):Prop:=S a/\∀c,V c->cm c a<0->∃d,V d/\cm c d<=0/\cm d a<0/\¬S d
def xR(cm:α->α->Int)(V:α->Prop)(S:α->Prop)(a:α):Prop:=¬S a/\(∃c,V c/\cm c a<0)/\∀c,V c->cm c a<0->∃d,V d/\cm c d<=0/\cm d a<0/\S d
theorem yu.congr{S T:α->Prop}{a:α}(h:yu cm V S a)(ha:V a)(e:∀a,V a->(S a↔T a)):yu cm V T a:=
 ⟨(e a ha).1 h.1,fun c hc hl=>by
  obtain⟨d,h1,h2,h3,h4⟩:=h.2 c hc hl
  exact⟨d,h1,h2,h3,fun k=>h4 ((e d h1).2 k)⟩⟩
theorem xR.congr{S T:α->Prop}{a:α}(h:xR cm V S a)(ha:V a)(e:∀a,V a->(S a↔T a)):xR cm V T a:=
 ⟨fun k=>h.1 ((e a ha).2 k),h.2.1,fun c hc hl=>by
  obtain⟨d,h1,h2,h3,h4⟩:=h.2.2 c hc hl
  exact⟨d,h1,h2,h3,(e d h1).1 h4⟩⟩
theorem yu.or{S T:α->Prop}{a:α}(h:yu cm V (fun a=>S a\/T a) a):yu cm V S a\/yu cm V T a:=by
 rcases h.1 with k|k
 ·exact .inl ⟨k,fun c hc hl=>by
   obtain⟨d,h1,h2,h3,h4⟩:=h.2 c hc hl
   exact⟨d,h1,h2,h3,fun k=>h4 (.inl k)⟩⟩
 ·exact .inr ⟨k,fun c hc hl=>by
   obtain⟨d,h1,h2,h3,h4⟩:=h.2 c hc hl
   exact⟨d,h1,h2,h3,fun k=>h4 (.inr k)⟩⟩
theorem sj.le(H:sj cm V){x y z:α}(h1:cm x y<=0)(h2:cm y z<=0):cm x z<=0:=by have:=H.tr x y z;unfold TR at this;omega
theorem sj.KV(H:sj cm V){x y z:α}(h1:cm x y<0)(h2:cm y z<=0):cm x z<0:=by have:=H.tr x y z;unfold TR at this;omega
theorem sj.Kz(H:sj cm V){x y z:α}(h1:cm x y<=0)(h2:cm y z<0):cm x z<0:=by have:=H.tr x y z;unfold TR at this;omega
theorem xR.or(H:sj cm V){S T:α->Prop}{a:α}(h:xR cm V (fun a=>S a\/T a) a):xR cm V S a\/xR cm V T a:=by
 obtain⟨h0,hc0,h1⟩:=h;by_cases k:xR cm V S a
 ·exact .inl k
 ·refine .inr ⟨fun x=>h0 (.inr x),hc0,fun c hc hl=>?_⟩;have k':∃c1,V c1/\cm c1 a<0/\∀d,V d->cm c1 d<=0->cm d a<0->¬S d:=Pn fun n=>k ⟨fun x=>h0 (.inl x),hc0,fun c hc hl=>Pn fun m=>n ⟨c,hc,hl,fun d d1 d2 d3 d4=>m ⟨d,d1,d2,d3,d4⟩⟩⟩;obtain⟨c1,v1,l1,n1⟩:=k';by_cases hcc:cm c c1<=0
  ·obtain⟨d,d1,d2,d3,d4⟩:=h1 c1 v1 l1;exact⟨d,d1,H.le hcc d2,d3,d4.resolve_left (n1 d d1 d2 d3)⟩
  ·have ha:=H.anti c c1;obtain⟨d,d1,d2,d3,d4⟩:=h1 c hc hl;exact⟨d,d1,d2,d3,d4.resolve_left (n1 d d1 (H.le (by omega) d2) d3)⟩
theorem yu.span(H:sj cm V){s:α×α}{a:α}(h1:V s.1)(ha:V a)(h:yu cm V (fun a=>cm s.1 a<=0/\cm a s.2<0) a):a=s.1:=by
 obtain⟨⟨k1,k2⟩,k3⟩:=h;by_cases hl:cm s.1 a<0
 ·obtain⟨d,d1,d2,d3,d4⟩:=k3 s.1 h1 hl;exact absurd ⟨d2,H.KV d3 (by omega)⟩ d4
 ·have:=H.anti s.1 a;exact H.eq a s.1 ha h1 (by omega)
theorem xR.span(H:sj cm V){s:α×α}{a:α}(h2:V s.2)(ha:V a)(h:xR cm V (fun a=>cm s.1 a<=0/\cm a s.2<0) a):a=s.2:=by
 obtain⟨k1,⟨c,c1,c2⟩,k3⟩:=h;obtain⟨d,d1,d2,d3,d4,d5⟩:=k3 c c1 c2;have hsa:cm s.1 a<=0:=by have:=H.Kz d4 d3;omega
 have hna:¬cm a s.2<0:=fun k=>k1 ⟨hsa,k⟩;have an:=H.anti a s.2;by_cases hl:cm s.2 a<0
 ·obtain⟨e,e1,e2,e3,e4,e5⟩:=k3 s.2 h2 hl;have:=H.anti s.2 e;omega
 ·exact H.eq a s.2 ha h2 (by omega)
theorem yu.mem(H:sj cm V):∀{l:List (α×α)} {a:α},(∀s∈l,V s.1/\V s.2)->V a->yu cm V (fun a=>dj cm a l) a->∃s∈l,a=s.1
 | [],a,_,_,h=>absurd h.1 (jh a)
 | s::r,a,hv,ha,h=>by
  rcases(h.congr ha fun a _=>dq).or with h|h
  ·exact⟨s,by simp,h.span H (hv s (by simp)).1 ha⟩
  ·obtain⟨t,ht,e⟩:=yu.mem H (fun t ht=>hv t (by simp[ht])) ha h;exact⟨t,by simp[ht],e⟩
theorem xR.mem(H:sj cm V):∀{l:List (α×α)} {a:α},(∀s∈l,V s.1/\V s.2)->V a->xR cm V (fun a=>dj cm a l) a->∃s∈l,a=s.2
 | [],a,_,_,h=>by
  obtain⟨_,⟨c,c1,c2⟩,h3⟩:=h;obtain⟨d,_,_,_,d4⟩:=h3 c c1 c2;exact absurd d4 (jh d)
 | s::r,a,hv,ha,h=>by
  rcases(h.congr ha fun a _=>dq).or H with h|h
  ·exact⟨s,by simp,h.span H (hv s (by simp)).2 ha⟩
  ·obtain⟨t,ht,e⟩:=xR.mem H (fun t ht=>hv t (by simp[ht])) ha h;exact⟨t,by simp[ht],e⟩
theorem NF.three{l:List (α×α)}(h:NF cm V l){s t:α×α}(hs:s∈l)(ht:t∈l):s=t\/cm s.2 t.1<0\/cm t.2 s.1<0:=by
 obtain⟨i,hi,rfl⟩:=PX.1 hs;obtain⟨j,hj,rfl⟩:=PX.1 ht;rcases Nk i j with k|k|k
 ·exact .inr (.inl (NZ.1 h.ord i j hi hj k))
 ·subst k;exact .inl rfl
 ·exact .inr (.inr (NZ.1 h.ord j i hj hi k))
theorem NF.stop(H:sj cm V){l:List (α×α)}(h:NF cm V l){s:α×α}(hs:s∈l):¬dj cm s.2 l:=by
 rintro⟨u,hu,k1,k2⟩;have ne:=(h.ne u hu).1;have ns:=(h.ne s hs).1;rcases h.three hs hu with e|e|e
 ·subst e;have:=H.KN s.2;omega
 ·have:=H.KV e k1;have:=H.KN s.2;omega
 ·have a1:=H.KV k2 (show cm u.2 s.1<=0 by omega);have a2:=H.KV a1 (show cm s.1 s.2<=0 by omega);have:=H.KN s.2;omega
theorem NF.lo(H:sj cm V){l:List (α×α)}(h:NF cm V l){s:α×α}(hs:s∈l):yu cm V (fun a=>dj cm a l) s.1:=by
 have ns:=h.ne s hs;refine⟨⟨s,hs,by rw[H.KN];omega,ns.1⟩,fun c hc hl=>?_⟩;by_cases k:dj cm c l
 ·obtain⟨t,ht,k1,k2⟩:=k;have nt:=h.ne t ht;rcases h.three hs ht with e|e|e
  ·subst e;have:=H.anti s.1 c;omega
  ·have a1:=H.KV hl (show cm s.1 s.2<=0 by omega);have a2:=H.KV a1 (show cm s.2 t.1<=0 by omega);have:=H.anti t.1 c;omega
  ·exact⟨t.2,nt.2.2,by omega,e,h.stop H ht⟩
 ·exact⟨c,hc,by rw[H.KN];omega,hl,k⟩
theorem NF.hi(H:sj cm V){l:List (α×α)}(h:NF cm V l){s:α×α}(hs:s∈l):xR cm V (fun a=>dj cm a l) s.2:=by
 have ns:=h.ne s hs;refine⟨h.stop H hs,⟨s.1,ns.2.1,ns.1⟩,fun c hc hl=>?_⟩;by_cases k:cm s.1 c<=0
 ·exact⟨c,hc,by rw[H.KN];omega,hl,s,hs,k,hl⟩
 ·have:=H.anti s.1 c;exact⟨s.1,ns.2.1,by omega,ns.1,s,hs,by rw[H.KN];omega,ns.1⟩
end
def bH:List Int->List Int->Int
 | [],[]=>0
 | [],_::_=>-1
 | _::_,[]=>1
 | a::r,b::s=>if a<b then -1 else if b<a then 1 else bH r s
theorem nR:∀(p a b:List Int),bH (p++a) (p++b)=bH a b
 | [],a,b=>rfl
 | x::p,a,b=>by rw[Lj,Lj,bH,LU (by omega),LU (by omega),nR p a b]
theorem cB(x:Int)(a b:List Int):bH (x::a) (x::b)=bH a b:=nR [x] a b
theorem eg{x y:Int}(h:x<y)(a b:List Int):bH (x::a) (y::b)=-1:=by rw[bH,LZ h]
theorem gJ{x y:Int}(h:y<x)(a b:List Int):bH (x::a) (y::b)=1:=by rw[bH,LU (by omega),LZ h]
theorem AK:∀{a b:List Int},bH a b=0->a=b
 | [],[],_=>rfl
 | [],_::_,h=>by rw[bH] at h;omega
 | _::_,[],h=>by rw[bH] at h;omega
 | x::r,y::s,h=>by
  rw[bH] at h;split at h
  ·omega
  split at h
  ·omega
  rw[show x=y by omega,AK h]
theorem pt:∀l m:List UInt8,Lib.compareBytes l m=bH (l.map fun x=>(x.toNat:Int)) (m.map fun x=>(x.toNat:Int))
 | [],[]=>rfl
 | [],_::_=>rfl
 | _::_,[]=>rfl
 | a::r,b::s=>by
  rw[Mb,Mb,bH,Lib.compareBytes,pt r s];have e:∀p q:UInt8,p<q↔(p.toNat:Int)<(q.toNat:Int):=fun p q=>by rw[MZ];omega
  by_cases h:a<b
  ·rw[LZ h,LZ ((e a b).1 h)]
  ·have h2:¬((a.toNat:Int)<(b.toNat:Int)):=fun h'=>h ((e a b).2 h');by_cases g:b<a
   ·rw[LU h,LZ g,LU h2,LZ ((e b a).1 g)]
   ·have g2:¬((b.toNat:Int)<(a.toNat:Int)):=fun h'=>g ((e b a).2 h');rw[LU h,LU g,LU h2,LU g2]
def yv(c d:Int):Int:=if c≠0 then c else d
theorem kS(d:Int):yv 0 d=d:=rfl
theorem Hf{c:Int}(h:c≠0)(d:Int):yv c d=c:=by unfold yv;rw[LZ h]
theorem nS(a b c:Int):yv (yv a b) c=yv a (yv b c):=by
 unfold yv;by_cases h:a=0<;>simp[h]
def Hg:Nat->Nat->List Int
 | 0,_=>[]
 | k+1,u=>((u/256^k%256:Nat):Int)::Hg k u
theorem sD(a b:List Int)(u v:Nat):∀k,bH (Hg k u++a) (Hg k v++b)=yv (cp ((u%256^k:Nat):Int) ((v%256^k:Nat):Int)) (bH a b)
 | 0=>by
  have e:∀x:Nat,x%256^0=0:=fun x=>by simp[Nat.mod_one]
  rw[e,e,gS,LU (by omega),LU (by omega),kS];rfl
 | k+1=>by
  have e:∀x:Nat,x%256^(k+1)=256^k*(x/256^k%256)+x%256^k:=fun x=>by
   rw[Nat.pow_succ,Nat.mod_mul,Nat.add_comm]
  have hp:0<256^k:=Nat.pow_pos (by omega);have hu:=Nat.mod_lt u hp;have hv:=Nat.mod_lt v hp;rw[Hg,Hg,Lj,Lj];rcases Nk (u/256^k%256) (v/256^k%256) with h|h|h
  ·have hm:=Nat.mul_le_mul_left (256^k) (Nat.succ_le_of_lt h);rw[Nat.mul_succ] at hm;rw[eg (by omega),e,e,gS,LZ (by omega)];rfl
  ·rw[h,cB,sD a b u v k,e,e,h]
   congr 1
   rw[gS,gS];generalize 256^k*(v/256^k%256)=D;generalize u%256^k=U at*;generalize v%256^k=V at*;rcases Nk U V with h1|h1|h1
   ·have h2:D+U<D+V:=by omega
    rw[LZ h1,LZ h2]
   ·subst h1;rw[LU (Nh _),LU (Nh _),LU (Nh _),LU (Nh _)]
   ·have h2:¬U<V:=by omega
    have h3:¬D+U<D+V:=by omega
    have h4:D+V<D+U:=by omega
    rw[LU h2,LZ h1,LU h3,LZ h4]
  ·have hm:=Nat.mul_le_mul_left (256^k) (Nat.succ_le_of_lt h);rw[Nat.mul_succ] at hm;rw[gJ (by omega),e,e,gS,LU (by omega),LZ (by omega)];rfl
theorem vo(n:Int):nums n=Hg 8 (zi n):=by
 simp[nums,fo,mV,Hg,List.range,List.range.loop]
def jb(n:Int):Prop:=-9223372036854775808<=n/\n<=9223372036854775807
theorem yw{n m:Int}(hn:jb n)(hm:jb m)(a b:List Int):bH (nums n++a) (nums m++b)=yv (cp n m) (bH a b):=by
 unfold jb at hn hm;rw[vo,vo,sD]
 congr 1
 have e:∀x:Int,-9223372036854775808<=x/\x<=9223372036854775807->((zi x%256^8:Nat):Int)=x+9223372036854775808:=fun x hx=>by
  have h8:(256:Nat)^8=18446744073709551616:=by decide
  unfold zi;rw[h8];omega
 rw[e n hn,e m hm];unfold cp Lib.compareInt;by_cases h1:n<m
 ·rw[LZ (by omega),LZ h1]
 ·rw[LU (by omega),LU h1];by_cases h2:n>m
  ·rw[LZ (by omega),LZ h2]
  ·rw[LU (by omega),LU h2]
theorem nT{x:UInt8}(h:x≠0):0<x.toNat:=by
 rcases MH x.toNat with h0|h0
 ·exact absurd (Mr.1 h0) h
 ·exact h0
theorem jc:jA 0=[0,255]:=rfl
theorem fN{x:UInt8}(h:x≠0):jA x=[(x.toNat:Int)]:=by unfold jA;rw[LU h]
theorem pu(a b:List Int):∀l m:List UInt8,bH (bO l++(0::0::a)) (bO m++(0::0::b))=yv (Lib.compareBytes l m) (bH a b)
 | [],[]=>by simp only[bO,MC,Lib.compareBytes,kS];rw[cB,cB]
 | [],y::s=>by
  simp only[bO,MC,Lib.compareBytes];by_cases h:y=0
  ·subst h;simp only[jc,Lj,MC];rw[cB,eg (by omega)];rfl
  ·have:=nT h;simp only[fN h,Lj,MC];rw[eg (by omega)];rfl
 | x::r,[]=>by
  simp only[bO,MC,Lib.compareBytes];by_cases h:x=0
  ·subst h;simp only[jc,Lj,MC];rw[cB,gJ (by omega)];rfl
  ·have:=nT h;simp only[fN h,Lj,MC];rw[gJ (by omega)];rfl
 | x::r,y::s=>by
  simp only[bO,Lib.compareBytes,Ld];by_cases h:x<y
  ·have hl:=MZ.1 h;rw[LZ h];by_cases hx:x=0
   ·subst hx;have hy:y≠0:=by rintro rfl;exact absurd hl (Nh _)
    have hz:(0:UInt8).toNat=0:=rfl;have:=nT hy;simp only[jc,fN hy,Lj,MC];rw[eg (by omega)];rfl
   ·have hy:y≠0:=by rintro rfl;exact absurd hl (Nat.not_lt_zero _)
    simp only[fN hx,fN hy,Lj,MC];rw[eg (by omega)];rfl
  ·rw[LU h];by_cases g:y<x
   ·have hl:=MZ.1 g;rw[LZ g];by_cases hy:y=0
    ·subst hy;have hx:x≠0:=by rintro rfl;exact absurd hl (Nh _)
     have:=nT hx;simp only[jc,fN hx,Lj,MC];rw[gJ (by omega)];rfl
    ·have hx:x≠0:=by rintro rfl;exact absurd hl (Nat.not_lt_zero _)
     simp only[fN hx,fN hy,Lj,MC];rw[gJ (by omega)];rfl
   ·have e:x=y:=by
     apply Mr.1;have h1:¬x.toNat<y.toNat:=fun h'=>h (MZ.2 h');have h2:¬y.toNat<x.toNat:=fun h'=>g (MZ.2 h');omega
    subst e;rw[LU g,nR];exact pu a b r s
theorem pv(a b:List Int):∀l m:List UInt8,(∀x∈l,x≠0)->(∀x∈m,x≠0)->
 bH ((l.map fun x=>(x.toNat:Int))++(0::a)) ((m.map fun x=>(x.toNat:Int))++(0::b))=yv (Lib.compareBytes l m) (bH a b)
 | [],[],_,_=>by simp only[NR,MC,Lib.compareBytes,kS];rw[cB]
 | [],y::s,_,hm=>by
  have:=nT (hm y (by simp));simp only[NR,MC,Mb,Lj,Lib.compareBytes];rw[eg (by omega)];rfl
 | x::r,[],hl,_=>by
  have:=nT (hl x (by simp));simp only[NR,MC,Mb,Lj,Lib.compareBytes];rw[gJ (by omega)];rfl
 | x::r,y::s,hl,hm=>by
  simp only[Mb,Lj,Lib.compareBytes];by_cases h:x<y
  ·have h1:=MZ.1 h;rw[LZ h,eg (by omega)];rfl
  ·rw[LU h];by_cases g:y<x
   ·have h1:=MZ.1 g;rw[LZ g,gJ (by omega)];rfl
   ·have e:x=y:=by
     apply Mr.1;have h1:¬x.toNat<y.toNat:=fun h'=>h (MZ.2 h');have h2:¬y.toNat<x.toNat:=fun h'=>g (MZ.2 h');omega
    subst e;rw[LU g,cB];exact pv a b r s (fun x hx=>hl x (by simp[hx])) fun x hx=>hm x (by simp[hx])
theorem AL{s:ByteArray}(h:aN s=true):∀x∈s.data.toList,x≠0:=by
 intro x hx e;subst e;simp only[aN,ME] at h;have:=PN.1 h.2 _ hx
 revert this
 decide
mutual
def cJ:aC->Prop
 | .mk _ n _ l d=>jb n/\vp l/\vq d
def vp:List aC->Prop
 | []=>True
 | x::r=>cJ x/\vp r
def vq:List bf->Prop
 | []=>True
 | f::r=>Dy f/\vq r
def Dy:bf->Prop
 | .mk _ v=>cJ v
end
theorem Bn(l:List aC):vp l↔∀y∈l,cJ y:=by
 induction l with
 | nil=>simp[vp]
 | cons x r ih=>simp[vp,ih]
theorem Bo(f:bf):Dy f↔cJ f.v:=by cases f;simp only[Dy];rfl
theorem Bp(d:List bf):vq d↔∀f∈d,cJ f.v:=by
 induction d with
 | nil=>simp[vq]
 | cons x r ih=>simp[vq,ih,Bo]
theorem gx(x:aC):cJ x↔jb x.n/\(∀y∈x.l,cJ y)/\∀f∈x.d,cJ f.v:=by
 cases x;rw[cJ,Bn,Bp];rfl
def AM(x:aC):Prop:=av aN x/\cJ x
theorem AM.list{x:aC}(h:AM x):∀y∈x.l,AM y:=fun y hy=>⟨((aZ aN x).1 h.1).2.1 y hy,((gx x).1 h.2).2.1 y hy⟩
theorem AM.Kv{x:aC}(h:AM x):∀f∈x.d,AM f.v/\aN f.s=true:=fun f hf=>⟨⟨((aZ aN x).1 h.1).2.2.1 f hf,((gx x).1 h.2).2.2 f hf⟩,((aZ aN x).1 h.1).2.2.2.1 f hf⟩
def Hh(x:aC):Prop:=∀y,AM x->AM y->∀a b,bH (aq x++a) (aq y++b)=yv (aU x y) (bH a b)
theorem pw(a b:List Int):∀(l m:List aC),(∀x∈l,Hh x/\AM x)->(∀y∈m,AM y)->bH (dN l++(0::a)) (dN m++(0::b))=yv (cv l m) (bH a b)
 | [],[],_,_=>by simp only[dN,MC,cv,PQ,Ou,kS];rw[cB]
 | [],y::s,_,_=>by
  simp only[dN,MC,Lj,cv,List.isEmpty_cons];rw[eg (by omega)];rfl
 | x::r,[],_,_=>by
  simp only[dN,MC,Lj,cv];rw[gJ (by omega)];rfl
 | x::r,y::s,hl,hm=>by
  have h1:=hl x (by simp);have h2:=hm y (by simp);simp only[dN,Lj,Ld,cv];rw[cB,h1.1 y h1.2 h2,pw a b r s (fun z hz=>hl z (by simp[hz])) (fun z hz=>hm z (by simp[hz])),<-nS];rfl
theorem sE(a b:List Int):∀(l m:List bf),(∀f∈l,Hh f.v/\AM f.v/\aN f.s=true)->(∀g∈m,AM g.v/\aN g.s=true)->bH (dL l++(0::a)) (dL m++(0::b))=yv (cK l m) (bH a b)
 | [],[],_,_=>by simp only[dL,MC,cK,PQ,Ou,kS];rw[cB]
 | [],y::s,_,_=>by
  simp only[dL,km,MC,Lj,cK,List.isEmpty_cons];rw[eg (by omega)];rfl
 | x::r,[],_,_=>by
  simp only[dL,km,MC,Lj,cK];rw[gJ (by omega)];rfl
 | x::r,y::s,hl,hm=>by
  have h1:=hl x (by simp);have h2:=hm y (by simp);simp only[dL,km,Lj,Ld,cK,uB];rw[cB];unfold eP;rw[pv _ _ _ _ (AL h1.2.2) (AL h2.2),h1.1 y.v h1.2.1 h2.1,sE a b r s (fun z hz=>hl z (by simp[hz])) (fun z hz=>hm z (by simp[hz])),<-nS,<-nS];rfl
theorem Bq(x:aC):Hh x:=by
 induction x using aC.ind with
 | h k n t l d ihl ihd=>
  intro y hx hy a b;rw[dA,dA,Lj,Lj,gh];by_cases hk:(aC.mk k n t l d).k=y.k
  ·have hkk:¬((aC.mk k n t l d).k≠y.k):=fun h=>h hk;rw[LU hkk,<-hk,cB];have hxi:=(gx _).1 hx.2;have hyi:=(gx _).1 hy.2;by_cases h1:(aC.mk k n t l d).k=3\/(aC.mk k n t l d).k=9\/(aC.mk k n t l d).k=10
   ·rw[LZ h1,LZ h1,LZ h1];exact yw hxi.1 hyi.1 a b
   rw[LU h1,LU h1,LU h1];by_cases h2:(aC.mk k n t l d).k=4\/(aC.mk k n t l d).k=7\/(aC.mk k n t l d).k=8
   ·rw[LZ h2,LZ h2,LZ h2,Ld,Ld];exact pu a b _ _
   rw[LU h2,LU h2,LU h2];by_cases h3:(aC.mk k n t l d).k=6
   ·rw[LZ h3,LZ h3,LZ h3,Ld,Ld];exact pw a b _ _ (fun z hz=>⟨ihl z hz,hx.list z hz⟩) fun z hz=>hy.list z hz
   rw[LU h3,LU h3,LU h3];by_cases h4:(aC.mk k n t l d).k=5
   ·rw[LZ h4,LZ h4,LZ h4,Ld,Ld];exact sE a b _ _ (fun z hz=>⟨ihd z hz,hx.Kv z hz⟩) fun z hz=>hy.Kv z hz
   rw[LU h4,LU h4,LU h4];rfl
  ·rw[LZ hk];unfold cp Lib.compareInt;rcases Ps (aC.mk k n t l d).k y.k with h|h|h
   ·rw[LZ h,eg h];rfl
   ·exact absurd h hk
   ·rw[LU (show ¬(aC.mk k n t l d).k<y.k by omega),LZ h,gJ h];rfl
def ij:ao->Prop
 | .mk _ _ arg args _ _ _ _ _ _ _ _ _ kids=>cJ arg.2/\(∀x∈args.xs,cJ x.2)/\NumsPs kids
where NumsPs:List ao->Prop
 | []=>True
 | x::r=>ij x/\NumsPs r
theorem yx{l:List ao}:ij.NumsPs l↔∀k∈l,ij k:=by
 induction l with
 | nil=>simp[ij.NumsPs]
 | cons y r ih=>simp[ij.NumsPs,ih]
theorem sF(p:ao):ij p↔cJ p.arg.2/\(∀x∈p.args.xs,cJ x.2)/\∀k∈p.kids,ij k:=by
 cases p;simp only[ij,yx];rfl
def fi(l:List Int):Prop:=∀z∈l,0<=z/\z<256
theorem fi.nil:fi []:=fun z hz=>by simp at hz
theorem fi.KY{l m:List Int}(h:fi l)(k:fi m):fi (l++m):=fun z hz=>(LY.1 hz).elim (h z) (k z)
theorem fi.cons{a:Int}{l:List Int}(ha:0<=a/\a<256)(h:fi l):fi (a::l):=fun z hz=>by
 rcases Li.1 hz with rfl|hz
 ·exact ha
 ·exact h z hz
theorem vr(n:Int):fi (nums n):=fun z hz=>by
 obtain⟨j,_,rfl⟩:=MS.1 hz;exact Ew n _
theorem vt:∀l:List UInt8,fi (bO l)
 | []=>fi.nil
 | x::r=>by
  rw[bO];refine fi.KY ?_ (vt r);unfold jA;have:=x.toNat_lt;split
  ·exact fi.cons (by omega) (fi.cons (by omega) fi.nil)
  ·exact fi.cons (by omega) fi.nil
theorem Fp(s:ByteArray):fi (eP s):=fun z hz=>by
 obtain⟨x,_,rfl⟩:=MS.1 hz;have:=x.toNat_lt;omega
theorem vu:∀l:List aC,(∀y∈l,fi (aq y))->fi (dN l)
 | [],_=>by rw[dN];exact fi.nil
 | y::r,h=>by rw[dN];exact fi.cons (by omega) ((h y (by simp)).KY (vu r fun z hz=>h z (by simp[hz])))
theorem AN:∀l:List bf,(∀f∈l,fi (aq f.v))->fi (dL l)
 | [],_=>by rw[dL];exact fi.nil
 | f::r,h=>by
  rw[dL,km];exact fi.KY (fi.cons (by omega) ((Fp f.s).KY (fi.cons (by omega) (h f (by simp))))) (AN r fun z hz=>h z (by simp[hz]))
theorem Fq(x:aC):av aN x->fi (aq x):=by
 induction x using aC.ind with
 | h k n t l d ihl ihd=>
  intro hs;obtain⟨hh,hl,hd,_⟩:=(aZ aN _).1 hs
  have hk:1<=k/\k<=11:=by
   have:=hh.2.2.2.2;simp only[aC.k] at this;omega
  rw[aq];refine fi.cons (by omega) ?_;split
  ·exact vr n
  split
  ·exact(vt _).KY (fi.cons (by omega) (fi.cons (by omega) fi.nil))
  split
  ·exact(vu l fun y hy=>ihl y hy (hl y hy)).KY (fi.cons (by omega) fi.nil)
  split
  ·exact(AN d fun f hf=>ihd f hf (hd f hf)).KY (fi.cons (by omega) fi.nil)
  ·exact fi.nil
theorem px{l:List Int}(h:fi l):((strOfNums l).data.toList.map fun x=>(x.toNat:Int))=l:=by
 rw[OA,NU]
 conv=>rhs;rw[<-List.map_id l]
 refine PZ fun z hz=>?_;have:=h z hz;simp only[Function.comp_apply,id];rw[Of];omega
theorem te{l m:List Int}(hl:fi l)(hm:fi m):bm (strOfNums l) (strOfNums m)=bH l m:=by
 unfold bm;rw[pt,px hl,px hm]
theorem tf{x:aC}(h:aO x=true):x.size<=1024/\x.Ju<=16/\av aN x:=by
 unfold aO at h;simp only[ME,Mg] at h;exact⟨h.1.1,h.1.2,eO.1 h.2⟩
theorem iQ{x:aC}(h:aO x=true):cr x=true:=by unfold cr;rw[h,Pg]
theorem Ig(y:aC):aO (jr y)=true:=by
 have hs:av aN (jr y):=(aZ _ _).2 ⟨⟨.inl rfl,.inr (.inr (.inr rfl)),.inr rfl,.inr rfl,.inr (.inr (.inr (.inl rfl)))⟩,by simp[jr,aC.l],by simp[jr,aC.d],by simp[jr,aC.d,iF]⟩;have h1:(jr y).size=1:=by simp[jr,aC.size]
 have h2:(jr y).Ju=1:=by simp[jr,aC.Ju]
 unfold aO;rw[LN (by omega),LN (by omega),cX hs];rfl
theorem Hi{x:aC}(h:aO x=true)(hn:cJ x):AM x:=⟨(tf h).2.2,hn⟩
end Go.Proofs.YthfahkaadbdicaaGreatDoor
