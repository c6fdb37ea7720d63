/- A part of the proof. -/
import Derived.Test.YtgfoliedmhgpnaaGreatDoorCn14
import Derived.Laws.Concat
set_option maxRecDepth 100000
set_option maxHeartbeats 16000000
open Go.Proofs.Tryz
open ByteArray (empty)
namespace Go.Proofs.YtgfoliedmhgpnaaGreatDoor
open Go.RowKit
section
variable {n m i c base size:Nat} {w:World} {t:TypeId} {x y:Int} {l:List ByteArray} {v:Value} {ha:Bool} {xs:List Value}
theorem Ks(t:ByteArray):(t.toList==[])=decide (t.size=0):=by
 rw[ByteArray.toList_eq,<-tU];cases t.data.toList with
 | nil=>rfl
 | cons a r=>simp
theorem MD(n:Nat):((n:Int)==0)=decide (n=0):=by
 by_cases h:n=0
 ·rw[h];rfl
 ·rw[OV h];exact PJ.2 oM
theorem vc(x:aC)(c:VC)(w:World)(hT:cZ w)(h:RW w c x):
 Calls prog 97 #[c.val] w (Rt w (.bool (dx x))):=by
 have ho:=h.open
 have hvk:x.k=0->aJ x=false:=fun e=>by
  cases hv:aJ x
  ·rfl
  ·simp only[aJ,Ov] at hv;obtain⟨_,_,_,_,h5⟩:=((aT aM x).1 (eE.1 hv.2)).1;omega
 have B0:Hid (aG (w.alloc (.cells c.arr 29)) w.heap.size 29 c.arr):=aG.Mm rfl;have BE:Hid (Bl w (w.alloc (.cells c.arr 29))):=(OG _ _).alloc (qL) _;have HV:=qD fun(w1:World) (hb:Bl w w1)=>iX x c w1 (hT.step hb) (h.step hb);have hk:=ho.k;have hn:=ho.n;have ht:=ho.t;have hl:=ho.ln;have hd:=ho.dn;have HK:=qD (And.intro hk (And.intro hn (And.intro ht (And.intro hl (And.intro hd hvk)))));clear hT h ho hk hn ht hl hd hvk;go_enter func97,ntmps97;go_upto_region 1 with fail
 change (Code.region 1 _ _).wp _ _ _ (w.alloc (.cells c.arr 29));generalize w.alloc (.cells c.arr 29)=wa at*;obtain⟨b0,b1,b2,b3,b4⟩:=aO.Mp B0.out;by_cases h0:c.k=0
 ·obtain⟨hk,hn,ht,hl,hd,hvk⟩:=HK.out;have hva:=hvk (by rw[<-hk];exact h0)
  have HA:Hid (dx x=(decide (c.n=0)&&(decide (c.t.size=0)&&(decide (c.ln=0)&&decide (c.dn=0))))):=by
   unfold Hid dx oI;rw[hva,<-hk,<-hn,<-ht,<-hl,<-hd,OM h0];simp
  have hsz:=Ks c.t;have P0:=aX b0;have P1:=aX b1;have P2:=aX b2;have P3:=aX b3;have P4:=aX b4;clear hk hn ht hl hd hva hvk;go_upto_region 2 with fail
  by_cases h1:c.n=0
  ·by_cases h2:c.t.size=0
   ·have h2b:(c.t.toList==[])=true:=by rw[hsz,OM h2]
    by_cases h3:c.ln=0
    ·go_wp2;go_ret;exact⟨by rw[HA.out];simp[h1,h2,h3,MD],BE.out⟩
    ·go_wp2;go_ret;exact⟨by rw[HA.out];simp[h1,h2,h3],BE.out⟩
   ·have h2b:(c.t.toList==[])=false:=by rw[hsz,OV h2]
    go_wp2;go_ret;exact⟨by rw[HA.out];simp[h1,h2],BE.out⟩
  ·go_wp2;go_ret;exact⟨by rw[HA.out];simp[h1],BE.out⟩
 ·obtain⟨hk,hn,ht,hl,hd,hvk⟩:=HK.out;have h0b:(c.k==0)=false:=by simpa using h0
  have HA:Hid (dx x=aJ x):=by
   unfold Hid dx oI;rw[<-hk,OV h0];rfl
  clear hk hn ht hl hd hvk;go_wp2_with fail;refine(HV.out wa BE.out).mono ?_;rintro e w1 ⟨rfl,hb⟩;have CE:=qD (BE.out.Ml hb);clear b0 b1 b2 b3 b4 hb HV B0;go_wp2;go_ret;exact⟨by rw[HA.out];rfl,CE.out⟩
noncomputable def dr(l:List aC):Bool:=l.all dx
noncomputable def gY(l:List aC):ByteArray×Int:=if dr l then(strOfNums (cP l),0) else(empty,8)
theorem jh{l:List aC}(h:dr l=true):gY l=(strOfNums (cP l),0):=OW h
theorem Av{l:List aC}{y:aC}(hy:l[i]?=some y)(h:dx y=false):gY l=(empty,8):=by
 have:dr l=false:=by
  unfold dr;rw[SF];exact⟨y,OJ hy,by rw[h];decide⟩
 unfold gY;rw[this];rfl
theorem vd{l:List aC}{y:aC}(hy:l[i]?=some y)(ha:dr (l.take i)=true)(h:dx y=true):dr (l.take (i+1))=true:=by
 unfold dr at*;rw[take_snoc' hy,Rz,ha];simp[h]
theorem yi{l:List aC}(h:dr l=true):(cP l).length<=8500000*l.length:=by
 induction l with
 | nil=>simp[cP]
 | cons a r ih=>
  have e:cP (a::r)=bR a++cP r:=rfl;unfold dr at h;rw[Sc,Ov] at h;have h1:=(jx h.1).2;have h2:=ih h.2;rw[e,OK,OZ];omega
def yj(b:Bool):List Value:=[.bool b]
theorem Ho{xs:List Int}(h:w.ownsRow base 5 1 v m (ah xs))(hm:m=xs.length):(convert 133 9 v).run prog w=.ok (.string (strOfNums xs)) w:=by
 rcases h.2 with⟨rfl,rfl⟩|⟨g,cap,cur,rfl,_⟩
 ·have:xs=[]:=OL hm.symm;subst this;exact run_convert_bytes_nil (P:=prog) w 133 5 Pd QX 0 0 9 PY
 ·refine Qz (P:=prog) w 133 5 Pd QX g 0 m cap xs hm.symm (fun i hi=>?_) 9 PY;have hx:xs[i]?=some (xs.getD i 0):=by rw[Rl,OH oM];rfl
  have:=h.cells (g:=g) rfl i (.int .u8 (xs.getD i 0)) (by unfold ah;rw[OT,hx];rfl)
  rwa [cW] at this
end
structure Iy(w:World)(v:Value)(m:Nat)(l:List Int)(wr:World):Prop where
 own:wr.ownsRow w.heap.size 5 1 v m (ah l)
 ln:m=l.length
 bel:Bl w wr
section
variable {k b n g o B m i c size:Nat} {w w' wr:World} {e t:TypeId} {a x y d:Int} {l r ys:List ByteArray} {v v':Value} {s:ByteArray} {A:Option Addr} {ha:Bool} {F:Nat -> Prop}
theorem Iy.step{l:List Int}(h:Iy w v m l wr)(hb:Bl wr w'):Iy w v m l w':=⟨af h.own hb,h.ln,h.bel.Ml hb⟩
theorem Iy.call{l l':List Int}{e:Ending}(h:Iy w v m l wr)(ha:jB w.heap.size v l' wr e w'):∃v',e=.returned v'/\Iy w v' l'.length l' w':=by
 obtain⟨v',he,ho,hg,hb⟩:=ha;exact⟨v',he,ho,rfl,h.bel.grown hg h.bel.size fun g hg'=>ak h.own g hg'⟩
theorem qS(ps:List PV)(A B:Option Addr)(n c bc:Nat)(w:World)(hT:cZ w)(h:SL (fun _=>True) w A n c ps)(hd:SR 1 yj w B n bc (List.replicate n false))(hn:n<=10):
 Calls prog 37 #[.slice A n c,.slice B n bc] w (Rt w (.tuple #[.string (gY (ps.map Prod.snd)).1,.int .i64 (gY (ps.map Prod.snd)).2])):=by
 have HT:=qD hT;have H:=qD h;have HD:=qD hd;have HL:Hid (n=ps.length):=h.sr.ln;clear hT h hd;have I0:Hid (Iy w (.slice none 0 0) 0 [] w):=⟨bP _ _ _ _,rfl,OG _ _⟩;go_enter func37,ntmps37;go_upto_region 5 with fail
 go_loopw [6,7,8,9,10,18] (fun u6 _ _ _ _ u18 wr=>∃i m:Nat,i<=n/\u18=.int .i64 i/\dr ((ps.map Prod.snd).take i)=true/\Iy w u6 m (cP ((ps.map Prod.snd).take i)) wr) (fun _ _ _ _ _ u18 _=>n-(intOf u18).toNat)
 ·exact⟨0,0,ON _,rfl,rfl,I0.out⟩
 case round=>
  obtain⟨i,m,hi,rfl,hal,J⟩:=hrel;have J2:=qD J;have HAL:=qD hal
  have hmb:m<=85000000:=by
   have h1:=J.ln;have h2:=yi hal;have h3:((ps.map Prod.snd).take i).length<=i:=List.length_take_le _ _;omega
  clear J hal I0;obtain⟨Am,cm,hvm,hlm⟩:=aY J2.out.own;subst hvm;by_cases hlt:i<n
  ·obtain⟨p,hp⟩:∃p,ps[i]?=some p:=⟨_,OH (by have:=HL.out;omega)⟩;obtain⟨b,off,hA,_,hat,hrv⟩:=H.out.Mw hp;subst hA;have hpl:(ps.map Prod.snd)[i]?=some p.2:=by rw[OT,hp];rfl
   obtain⟨q0,q1,q2,q3,q4⟩:=hat.step J2.out.bel;have hbw:b<wr.heap.size:=Oj wr _ q0;have HR:=qD hrv.lt;have HPL:=qD hpl;have i0':(0:Int)<=(i:Int):=oM
   have i1':(i:Int)<(n:Int):=oM
   clear hp hat hrv hpl;go_upto_region 7 with fail
   change (Code.region 7 _ _).wp _ _ _ (wr.alloc (.cells p.1.arr 29));have JB:Hid (aG (wr.alloc (.cells p.1.arr 29)) wr.heap.size 29 p.1.arr):=aG.Mm rfl;have J3:=qD (J2.out.step ((OG wr.heap.size wr).alloc (qL) (Obj.cells p.1.arr 29)));have NE:(Value.slice Am m cm).ownBlock≠some wr.heap.size:=fun e=>absurd (eO J2.out.own e) oM;generalize wr.alloc (.cells p.1.arr 29)=wa at*;generalize wr.heap.size=ga at*;clear q0 q1 q2 q3 q4 J2;obtain⟨q0,q1,q2,q3,q4⟩:=aO.Mp JB.out;have HAW:=qD (vc p.2 p.1 wa (HT.out.step J3.out.bel) ((HR.out.Mr fun b hb _=>⟨trivial,J3.out.bel.block b hb.2⟩)));cases hA:dx p.2
   ·have HK:=qD (Av HPL.out hA);rw[hA] at HAW;clear hA;go_wp2_with fail;refine HAW.out.mono ?_;rintro e w1 ⟨rfl,hb⟩;have J4:=qD (J3.out.step hb);clear q0 q1 q2 q3 q4 hb HAW J3 JB;go_wp2;go_ret2;exact⟨by rw[HK.out];rfl,J4.out.bel⟩
   ·have HSN:=qD (wV HPL.out);have HAS:=qD (vd HPL.out HAL.out hA);have HE1:=qD (jx hA);rw[hA] at HAW;clear hA;go_wp2_with fail;refine HAW.out.mono ?_;rintro e w1 ⟨rfl,hb⟩;have J4:=qD (J3.out.step hb);have JB2:=qD (JB.out.step hb);clear q0 q1 q2 q3 q4 hb HAW J3 JB;obtain⟨q0,q1,q2,q3,q4⟩:=aO.Mp JB2.out;have hap:=Hn p.2 p.1 (.slice Am m cm) (cP ((ps.map Prod.snd).take i)) w.heap.size m w1 (HR.out.Mr fun b hb _=>⟨hb.2,J4.out.bel.block b hb.2⟩) HE1.out.1 J4.out.bel.size J4.out.ln J4.out.own (by have h1:=J4.out.ln;have h2:=HE1.out.2;omega);have HAP:=qD hap;clear hap;go_upto_region 10 with fail
    go_wp2_with fail;refine HAP.out.mono ?_;rintro e w2 hok;obtain⟨v3,rfl,hJ5⟩:=J4.out.call hok;rw[<-HSN.out] at hJ5;have J5:=qD hJ5;clear q0 q1 q2 q3 q4 HAP hok hJ5 J4 JB2;obtain⟨b',off',hB,hbB,hel⟩:=HD.out.el oM;have hde:=hel i false (by rw[List.getElem?_replicate,OW hlt]) 0 _ rfl;have hde2:=(J5.out.bel.cell (p:=⟨b',off'+i*1+0,none⟩) hbB).trans hde;rw[RY,QW] at hde2;subst hB;clear hel hde;obtain⟨A3,c3,hv3,hlc3⟩:=aY J5.out.own;subst hv3;go_wp2_with fail;go_roundw
    ·exact⟨i+1,_,hlt,by go_num,HAS.out,J5.out⟩
    ·exact iO
  ·obtain rfl:i=n:=oM
   have hTK:(ps.map Prod.snd).take i=ps.map Prod.snd:=OS (by rw[Oe];have:=HL.out;omega);have hal:=HAL.out;have hln:=J2.out.ln;have hcv:=Ho J2.out.own J2.out.ln;rw[hTK] at hal hcv;obtain⟨Z,hZ⟩:∃Z,Z=strOfNums (cP (ps.map Prod.snd)):=⟨_,rfl⟩;rw[<-hZ] at hcv;have HK:Hid (gY (ps.map Prod.snd)=(Z,0)):=by rw[hZ];exact jh hal
   clear hTK hal hln hZ;go_wp2;go_ret2;exact⟨by rw[HK.out];rfl,J2.out.bel⟩
def iK(r:Nat):Nat:=if r%2=1 then(r/2) ^^^ 2197175160 else r/2
def gZ(r:Nat):Nat->Nat
 | 0=>r
 | k+1=>iK (gZ r k)
def uS(r b:Nat):Nat:=gZ (r ^^^ b) 8
def ve(r:Nat)(l:List UInt8):Nat:=l.foldl (fun r x=>uS r x.toNat) r
def jW(s:ByteArray):Nat:=ve 4294967295 s.data.toList ^^^ 4294967295
theorem vf{a:Nat}(ha:a<4294967296)(hb:b<4294967296):a ^^^ b<4294967296:=Nat.xor_lt_two_pow (n:=32) ha hb
theorem yl{r:Nat}(h:r<4294967296):iK r<4294967296:=by
 unfold iK;split
 ·exact vf oM oM
 ·omega
theorem lL{r:Nat}(h:r<4294967296):∀k,gZ r k<4294967296
 | 0=>h
 | k+1=>yl (lL h k)
theorem ym{r:Nat}(h:r<4294967296)(hb:b<256):uS r b<4294967296:=lL (vf h oM) 8
theorem Aw(l:List UInt8):∀{r:Nat},r<4294967296->ve r l<4294967296:=by
 induction l with
 | nil=>intro r h;exact h
 | cons x l ih=>
  intro r h;exact ih (ym h (by have:=x.toNat_lt;omega))
theorem CN(s:ByteArray):jW s<4294967296:=by
 unfold jW;exact vf (Aw _ oM) oM
theorem CO{r:Nat}{l:List UInt8}{x:UInt8}(h:l[i]?=some x):ve r (l.take (i+1))=uS (ve r (l.take i)) x.toNat:=by
 unfold ve;rw[Pf,h,Sw];simp only[Option.toList,List.foldl_cons,List.foldl_nil]
theorem og(a:Nat)(ha:a<4294967296):(BitVec.ofInt 32 (a:Int)).toNat=a:=by
 rw[BitVec.ofInt_natCast,BitVec.toNat_ofNat];exact Nat.mod_eq_of_lt oM
theorem vg(a:Nat)(ha:a<4294967296):bits .and .u32 (a:Int) 1=((a%2:Nat):Int):=by
 have e:(BitVec.ofInt 32 (1:Int)).toNat=1:=by decide
 show IntKind.u32.wrap ((BitVec.ofInt 32 (a:Int)&&& BitVec.ofInt 32 (1:Int)).toNat:Int)=_;rw[BitVec.toNat_and,og a ha,e,Nat.and_one_is_mod,TI];omega
theorem lM(a b:Nat)(ha:a<4294967296)(hb:b<4294967296):bits .xor .u32 (a:Int) (b:Int)=((a ^^^ b:Nat):Int):=by
 have hx:=vf ha hb;show IntKind.u32.wrap ((BitVec.ofInt 32 (a:Int) ^^^ BitVec.ofInt 32 (b:Int)).toNat:Int)=_;rw[BitVec.toNat_xor,og a ha,og b hb,TI];omega
theorem dsize'(t:ByteArray):t.data.toList.length=t.size:=by rw[Pk];rfl
theorem EU(r:Nat):(r:Int)/2=((r/2:Nat):Int):=oM
theorem Ax{a:Nat}(h:a<4294967296):IntKind.u32.wrap (a:Int)=(a:Int):=by rw[TI];omega
theorem CP(r:Nat):(r%2=1/\iK r=(r/2) ^^^ 2197175160)\/(r%2=0/\iK r=r/2):=by
 unfold iK;rcases Nat.mod_two_eq_zero_or_one r with h|h
 ·exact .inr ⟨h,by rw[OQ oM]⟩
 ·exact .inl ⟨h,by rw[OW h]⟩
theorem yo{r:Nat}(hr:r<4294967296):∃o h c:Nat,bits .and .u32 (r:Int) 1=(o:Int)/\(r:Int)/2=(h:Int)/\IntKind.u32.wrap (h:Int)=(h:Int)/\bits .xor .u32 (h:Int) 2197175160=(c:Int)/\h<4294967296/\((o=1/\iK r=c)\/(o=0/\iK r=h)):=by
 refine⟨r%2,r/2,(r/2) ^^^ 2197175160,vg r hr,EU r,Ax oM,lM (r/2) 2197175160 oM oM,by omega,?_⟩;rcases CP r with⟨h1,h2⟩|⟨h1,h2⟩
 ·exact .inl ⟨h1,h2⟩
 ·exact .inr ⟨h1,h2⟩
theorem Hp(s:ByteArray)(w:World)(hs:s.size<=140737488355328):Calls prog 92 #[.string s] w fun e w'=>e=.returned (.int .u32 ((jW s:Nat):Int))/\w'=w:=by
 go_enter func92,ntmps92;go_upto_region 3 with fail
 go_loopw [3,4,5,8,17] (fun u3 _ _ u8 _ wr=>∃i:Nat,i<=s.size/\u8=.int .i64 i/\u3=.int .u32 ((ve 4294967295 (s.data.toList.take i):Nat):Int)/\wr=w) (fun _ _ _ u8 _ _=>s.size-(intOf u8).toNat)
 ·exact⟨0,ON _,rfl,rfl,rfl⟩
 case round=>
  obtain⟨i,hi,rfl,rfl,rfl⟩:=hrel;have hlt32:=Aw (s.data.toList.take i) (r:=4294967295) oM;obtain⟨r,hr⟩:∃r,r=ve 4294967295 (s.data.toList.take i):=⟨_,rfl⟩;rw[<-hr] at hlt32 ⊢;have HR:=qD hr;clear hr;have sz:(s.size:Int)<=140737488355328:=oM
  have i0:(0:Int)<=(i:Int):=oM
  by_cases hlt:i<s.size
  ·have hx:=s[i].toNat_lt;have HSN:=qD (CO (r:=4294967295) (ia s i hlt));obtain⟨b,hb⟩:∃b,b=s[i].toNat:=⟨_,rfl⟩;have hbw:IntKind.u32.wrap (s[i].toNat:Int)=(b:Int):=by rw[hb];exact Ax oM
   have hxr:=lM r b hlt32 oM;obtain⟨r0,hr0⟩:∃r0,r0=r ^^^ b:=⟨_,rfl⟩;have hr0l:r0<4294967296:=by rw[hr0];exact vf hlt32 oM
   rw[<-hr0] at hxr;have i1:(i:Int)<(s.size:Int):=oM
   have HNX:Hid (ve 4294967295 (s.data.toList.take (i+1))=gZ r0 8):=by
    refine HSN.out.trans ?_;rw[hr0,HR.out,hb];rfl
   have HR0:=qD hr0l;clear hb hr0;go_upto_region 7 with fail
   clear hxr hbw hx hr0l HSN
   go_loopw [3,5,17] (fun u3 _ u17 wx=>∃k:Nat,k<=8/\u17=.int .i64 k/\u3=.int .u32 ((gZ r0 k:Nat):Int)/\wx=wr) (fun _ _ u17 _=>9-(intOf u17).toNat)
   ·exact⟨0,ON _,rfl,rfl,rfl⟩
   case round=>
    obtain⟨k,hk,rfl,rfl,rfl⟩:=hrel;have hl:=lL HR0.out k;have hstep:gZ r0 (k+1)=iK (gZ r0 k):=rfl;obtain⟨r1,hr1⟩:∃r1,r1=gZ r0 k:=⟨_,rfl⟩;rw[<-hr1] at hl hstep ⊢;have HR1:=qD hr1;have HST:=qD hstep;clear hr1 hstep;by_cases hk8:k<8
    ·obtain⟨o,h,c,f1,f2,f3,f4,f5,f6⟩:=yo hl;have HL:=qD hl;have k0:(0:Int)<=(k:Int):=oM
     clear hl;rcases f6 with⟨rfl,f7⟩|⟨rfl,f7⟩
     ·have HF:=qD f7;clear f7;go_wp2_with fail;go_roundw
      ·exact⟨k+1,hk8,by go_num,by rw[HST.out,HF.out],trivial⟩
      ·exact iO
     ·have HF:=qD f7;clear f7;go_wp2_with fail;go_roundw
      ·exact⟨k+1,hk8,by go_num,by rw[HST.out,HF.out],trivial⟩
      ·exact iO
    ·obtain rfl:k=8:=oM
     go_wp2_with fail;go_roundw
     ·exact⟨i+1,hlt,by go_num,by rw[HNX.out,<-HR1.out],trivial⟩
     ·exact iO
  ·obtain rfl:i=s.size:=oM
   have hTK:s.data.toList.take s.size=s.data.toList:=OS (by rw[dsize'];exact qL)
   have HX:Hid (bits .xor .u32 IntKind.u32.max (r:Int)=((jW s:Nat):Int)):=by
    have e:=lM 4294967295 r oM hlt32;rw[Nat.xor_comm] at e;unfold Hid jW;rw[<-hTK,<-HR.out];exact e
   clear hTK;go_wp2;go_ret;exact⟨by rw[<-HX.out];rfl,rfl⟩
noncomputable def cL(x:aC):Int:=if dx x then((jW (strOfNums (bR x)):Nat):Int) else 0
theorem iL{x:aC}(h:dx x=true):gY [x]=(strOfNums (bR x),0):=by
 have e:cP [x]=bR x:=by simp[cP]
 rw[jh (by simp[dr,h]),e]
theorem vh{x:aC}(h:dx x=false):gY [x]=(empty,8):=Av (i:=0) rfl h
theorem yp{c:VC}{x:aC}(h:aG w g 29 c.arr)(hr:RW w c x):SL (fun _=>True) w (some ⟨g,0,none⟩) 1 1 [(c,x)]:=by
 refine⟨⟨rfl,qL,fun _=>⟨g,0,rfl,h.lt,fun i a hi j v hj=>?_⟩⟩,by decide,fun _=>⟨g,0,rfl,Ft.Nd⟩,fun p hp=>?_⟩
 ·cases i with
  | zero=>
   simp at hi;subst hi;have:=qv (aO.Mn h) j v hj;simpa using this
  | succ i=>simp at hi
 ·simp at hp;subst hp;exact hr
theorem JP(h:aG w g t #[.bool false]):SR 1 yj w (some ⟨g,0,none⟩) 1 1 (List.replicate 1 false):=by
 refine⟨rfl,qL,fun _=>⟨g,0,rfl,h.lt,fun i a hi j v hj=>?_⟩⟩;cases i with
 | zero=>
  simp at hi;subst hi;cases j with
  | zero=>simp[yj] at hj;subst hj;exact h.cell 0
  | succ j=>simp[yj] at hj
 | succ i=>simp at hi
theorem jk(x:aC)(c:VC)(w:World)(hT:cZ w)(h:RW w c x):
 Calls prog 91 #[c.val] w (Rt w (.tuple #[.string (gY [x]).1,.int .i64 (gY [x]).2])):=by
 have H:=qD h;have HT:=qD hT;have BE:Hid (Bl w (((w.alloc (.cells c.arr 29)).alloc (.cells c.arr 29)).alloc (.cells #[.bool false] 4))):=(((OG _ _).alloc (qL) _).alloc sM _).alloc sO _;have B1:Hid (aG (((w.alloc (.cells c.arr 29)).alloc (.cells c.arr 29)).alloc (.cells #[.bool false] 4)) (w.heap.size+1) 29 c.arr):=(aG.Mm sM).alloc _;have B2:Hid (aG (((w.alloc (.cells c.arr 29)).alloc (.cells c.arr 29)).alloc (.cells #[.bool false] 4)) (w.heap.size+2) 4 #[.bool false]):=aG.Mm sM;obtain⟨wb,hwb⟩:∃wb,wb=(((w.alloc (.cells c.arr 29)).alloc (.cells c.arr 29)).alloc (.cells #[.bool false] 4)):=⟨_,rfl⟩;rw[<-hwb] at BE B1 B2;have HC:=qD (qS [(c,x)] (some ⟨w.heap.size+1,0,none⟩) (some ⟨w.heap.size+2,0,none⟩) 1 1 1 wb (HT.out.step BE.out) (yp B1.out (H.out.step BE.out)) (JP B2.out) oM);rw[hwb] at HC;have HWB:=qD hwb;clear h hT hwb;simp only[Pp,RM] at HC;obtain⟨K,hK⟩:∃K,gY [x]=K:=⟨_,rfl⟩;rw[hK] at HC ⊢;clear hK;obtain⟨K1,K2⟩:=K;go_enter func91,ntmps91;go_wp2_with fail;refine HC.out.mono ?_;rintro e w1 ⟨rfl,hb⟩;rw[<-HWB.out] at hb;have CE:=qD (BE.out.Ml hb);clear hb HC B1 B2;go_wp2;go_ret2;exact⟨rfl,CE.out⟩
theorem nz(x:aC)(c:VC)(w:World)(hT:cZ w)(h:RW w c x):
 Calls prog 33 #[c.val] w (Rt w (.int .i64 (cL x))):=by
 have H:=qD h;have B0:Hid (aG (w.alloc (.cells c.arr 29)) w.heap.size 29 c.arr):=aG.Mm rfl;have BE:Hid (Bl w (w.alloc (.cells c.arr 29))):=(OG _ _).alloc (qL) _;have HC:=qD fun(w1:World) (hb:Bl w w1)=>jk x c w1 (hT.step hb) (h.step hb);clear h hT;go_enter func33,ntmps33;go_upto_region 1 with fail
 change (Code.region 1 _ _).wp _ _ _ (w.alloc (.cells c.arr 29));generalize w.alloc (.cells c.arr 29)=wa at*;obtain⟨q0,q1,q2,q3,q4⟩:=aO.Mp B0.out;have HCA:=qD (HC.out wa BE.out);cases hA:dx x
 ·have HV:Hid (cL x=0):=by unfold Hid cL;rw[hA];rfl
  rw[vh hA] at HCA;clear hA HC;go_wp2_with fail;refine HCA.out.mono ?_;rintro e w1 ⟨rfl,hb⟩;have CE:=qD (BE.out.Ml hb);clear q0 q1 q2 q3 q4 hb HCA B0;go_wp2;go_ret;exact⟨by rw[HV.out];rfl,CE.out⟩
 ·have HV:Hid (cL x=((jW (strOfNums (bR x)):Nat):Int)):=by unfold Hid cL;rw[hA];rfl
  have hz:=(jx hA).2;have hzz:(strOfNums (bR x)).size<=140737488355328:=by rw[Qg];omega
  rw[iL hA] at HCA;have hlt:=CN (strOfNums (bR x));obtain⟨S,hS⟩:∃S,S=strOfNums (bR x):=⟨_,rfl⟩;rw[<-hS] at HCA HV hzz hlt;have HZ:=qD hzz;obtain⟨q,hq⟩:∃q,q=jW S:=⟨_,rfl⟩;rw[<-hq] at HV hlt;have HQ:=qD hq;have qz:(q:Int)<4294967296:=oM
  clear hA HC hS hz hzz hlt hq;go_wp2_with fail;refine HCA.out.mono ?_;rintro e w1 ⟨rfl,hb⟩;have CE:=qD (BE.out.Ml hb);clear q0 q1 q2 q3 q4 hb HCA B0;go_wp2_with fail;refine(Hp S w1 HZ.out).mono ?_;rintro e w2 ⟨rfl,rfl⟩;rw[<-HQ.out];go_wp2;go_ret;exact⟨by rw[HV.out];rfl,CE.out⟩
noncomputable def ie(y:aC):aC:=.mk 3 (cL y) empty [] []
noncomputable def Kt(y:aC):VC:=⟨3,cL y,empty,none,0,0,none,0,0⟩
theorem EV(y:aC):RV F w (Kt y) (ie y):=
 pw.shut ⟨rfl,rfl,rfl,by show 0<=aF;decide,rfl,qL,by show 0*80<=aF;decide,fun h=>absurd h (by show ¬(0<0);omega),rfl,qL,by show 0*96<=aF;decide,fun h=>absurd h (by show ¬(0<0);omega)⟩
noncomputable def ig(ha:Bool)(ys:List aC):List aC:=if ha then ys.map ie else ys
noncomputable def nD(ks:List Od)(ha:Bool)(x:aC):ByteArray×Int:=match jA ks x with
 | none=>(empty,8)
 | some ys=>gY (ig ha ys)
theorem mP{ks:List Od}{x:aC}(h:jA ks x=none):nD ks ha x=(empty,8):=by rw[nD,h]
theorem mQ{ks:List Od}{x:aC}{ys:List aC}(h:jA ks x=some ys):nD ks ha x=gY (ig ha ys):=by rw[nD,h]
theorem yq(ys:List aC)(y:aC):ig true (ys++[y])=ig true ys++[ie y]:=by simp[ig]
theorem tF(ys:List aC):ig false ys=ys:=rfl
theorem yr(ha:Bool)(ys:List aC):(ig ha ys).length=ys.length:=by cases ha<;>simp[ig]
theorem qT:(Tryz.prog.info? 4).map (fun i=>(i.zero,i.size,i.bytes))=some (some (.bool false),1,1):=kR
theorem Hq(w:World)(n:Nat):SR 1 yj (w.alloc (.cells (madeCells #[.bool false] n) 4)) (some ⟨w.heap.size,0,none⟩) n n (List.replicate n false):=by
 refine⟨by simp,qL,fun _=>⟨w.heap.size,0,rfl,by simp,fun i a hi j v hj=>?_⟩⟩;cases j with
 | zero=>
  rw[aG.cell (aG.new _ _ _)];rw[List.getElem?_replicate] at hi;split at hi
  ·rename_i hl
   cases hi;simp[yj] at hj;subst hj;simp[madeCells,hl,Nat.mod_one]
  ·cases hi
 | succ j=>simp[yj] at hj
theorem vi(ks:List Od)(ha:Bool)(A:Option Addr)(n cc:Nat)(x:aC)(c:VC)(w:World)(hT:cZ w)(hk:KS w A n cc ks)(hx:RW w c x)(h8:ks.length<=8):
 Calls prog 10 #[.agg #[.slice A n cc,.bool ha],c.val] w (Rt w (.tuple #[.string (nD ks ha x).1,.int .i64 (nD ks ha x).2])):=by
 obtain⟨i0,hi0,hy0,hy1,hy2⟩:=Pb dB;have HT:=qD hT;have HN:=qD hk.ln;have HX:=qD hx;have HK:=qD hk;have HKX:Hid (c.k=x.k):=hx.open.k;have hn8:n<=8:=by have:=HN.out;omega
 have I0:Hid (EQ w #[.slice A n cc,.bool ha] c (.slice none 0 0) [] ((w.alloc (.cells #[.slice A n cc,.bool ha] 24)).alloc (.cells c.arr 29))):=EQ.start;clear hk hx hT;go_enter func10,ntmps10;go_upto_region 1 with fail
 change Code.wp _ _ _ _ ((w.alloc (.cells #[.slice A n cc,.bool ha] 24)).alloc (.cells c.arr 29));generalize ((w.alloc (.cells #[.slice A n cc,.bool ha] 24)).alloc (.cells c.arr 29))=wa at*;obtain⟨a0,a1,a2,a3,a4⟩:=aO.Mp I0.out.b1;by_cases h5:c.k=5;rotate_left
 ·have h5b:(c.k != 5)=true:=by simp[h5]
  have HV:Hid (nD ks ha x=(empty,8)):=mP (yh (by rw[<-HKX.out];exact h5));clear h5;go_wp2;go_ret2;exact⟨by rw[HV.out];rfl,I0.out.vs.bel⟩
 have h5b:(c.k != 5)=false:=by simp[h5]
 have HX5:Hid (x.k=5):=by unfold Hid;rw[<-HKX.out];exact h5
 clear h5;have hva:=qD (iX x c wa (HT.out.step I0.out.vs.bel) (HX.out.step I0.out.vs.bel));cases hv:aJ x
 ·have HV:Hid (nD ks ha x=(empty,8)):=mP (CH hv);rw[hv] at hva;clear hv;go_wp2_with fail;refine hva.out.mono ?_;rintro e w1 ⟨rfl,hb⟩;have I1:=qD (I0.out.step hb);clear hva hb a0 a1 a2 a3 a4;go_wp2;go_ret2;exact⟨by rw[HV.out];rfl,I1.out.vs.bel⟩
 have HVX:Hid (jA ks x=dj x ks):=tE HX5.out hv;rw[hv] at hva;clear hv;go_wp2_with fail;refine hva.out.mono ?_;rintro e w1 ⟨rfl,hb⟩;have I1:=qD (I0.out.step hb);clear hva hb a0 a1 a2 a3 a4 I0;have k0:=I1.out.b0.cell 0;simp at k0;go_upto_region 5 with fail
 clear k0
 go_loopw [6,8,9,10,22] (fun u6 _ _ _ u22 wr=>∃(i:Nat) (ys:List aC) (ps:List PV),i<=n/\ys.length=i/\ps.map Prod.snd=ig ha ys/\u22=.int .i64 i/\dj x ks=(dj x (ks.drop i)).map (ys++·)/\EQ w #[.slice A n cc,.bool ha] c u6 ps wr) (fun _ _ _ _ u22 _=>n-(intOf u22).toNat)
 ·exact⟨0,[],[],ON _,rfl,by cases ha<;>rfl,rfl,by simp,I1.out⟩
 case round=>
  obtain⟨i,ys,ps,hi,hyl,hps,rfl,hall,J⟩:=hrel;have HYL:=qD hyl;have HPS:=qD hps;have HPL:Hid (ps.length=i):=by have:=congrArg List.length hps;rw[Oe,yr,hyl] at this;exact this
  have HA:=qD hall;have J2:=qD J;clear hyl hps hall J I1;by_cases hlt:i<n
  ·obtain⟨os,hos⟩:=HK.out;obtain⟨b,off,o,hA,hb,ho,e0,e1⟩:=hos.sr.Ng hlt;subst hA;obtain⟨q,hq⟩:∃q,ks[i]?=some q:=⟨_,OH (by have:=HN.out;omega)⟩;have HOR:=qD (hos.el i o q ho hq);have HVA:=qD (CG (x:=x) hq);have ew:=(J2.out.vs.bel.cell (p:=⟨b,off+i*2,none⟩) hb).trans e0;have ew1:=(J2.out.vs.bel.cell (p:=⟨b,off+i*2+1,none⟩) hb).trans e1;have hbw:b<wr.heap.size:=Ol hb J2.out.vs.bel.size;have i0':(0:Int)<=(i:Int):=oM
   have i1':(i:Int)<(n:Int):=oM
   clear hos ho hq e0 e1;go_upto_region 7 with fail
   change Code.wp _ _ _ _ (wr.alloc (.cells #[.slice o.A o.n o.c,.bool o.d] 70));have JB:Hid (aG (wr.alloc (.cells #[.slice o.A o.n o.c,.bool o.d] 70)) wr.heap.size 70 #[.slice o.A o.n o.c,.bool o.d]):=aG.Mm rfl;have J3:=qD (J2.out.step ((OG wr.heap.size wr).alloc (qL) (Obj.cells #[.slice o.A o.n o.c,.bool o.d] 70)));generalize wr.alloc (.cells #[.slice o.A o.n o.c,.bool o.d] 70)=wb at*;generalize wr.heap.size=ga at*;clear ew ew1 hbw J2;obtain⟨a0,a1,a2,a3,a4⟩:=aO.Mp J3.out.b1;have o0:=JB.out.cell 0;simp at o0;have HAT:=qD (Kb (F:=fun b=>b<w.heap.size) x c o.A o.n o.c q.p wb ((HX.out.lt.mono fun b hb=>hb.2).keep fun b hb=>J3.out.vs.bel.block b hb) (HOR.out.st.step J3.out.vs.bel));go_wp2_with fail;refine HAT.out.mono ?_;rintro e w2 ⟨c9,rfl,hr,hb⟩;have J4:=qD (J3.out.step hb);have HR9:Hid (∀y,cT x q.p=some y->RV (fun b=>Value.ownBlock u6≠some b) w2 c9 y):=fun y hy=>(hr y hy).mono fun b hb=>J3.out.vs.Mu hb;clear hr hb HAT a0 a1 a2 a3 a4 o0 JB J3;cases hg:cT x q.p with
   | none=>
    have HV:Hid (nD ks ha x=(empty,8)):=mP (by rw[HVX.out,HA.out,HVA.out,hg];rfl);have J5:=qD (J4.out.step ((OG w2.heap.size w2).alloc (qL) (Obj.cells c9.arr 29)));clear hg;go_wp2;go_ret2;exact⟨by rw[HV.out];rfl,J5.out.vs.bel⟩
   | some y=>
    have HRY:=qD (HR9.out y hg)
    have HV:Hid (dj x ks=(dj x (ks.drop (i+1))).map ((ys++[y])++·)):=by
     unfold Hid;rw[HA.out,HVA.out,hg];simp[Option.map_map,Function.comp_def]
    clear hg HR9;have hlo2:w.heap.size<=w2.heap.size:=J4.out.vs.bel.size;have NE:Hid (Value.ownBlock u6≠some w2.heap.size):=J4.out.vs.Mu (.inr (qL));have NG:Hid (w.heap.size+2<=w2.heap.size):=J4.out.sz;go_upto_region 10 with fail
    change Code.wp _ _ _ _ (w2.alloc (.cells c9.arr 29));have JB:Hid (aG (w2.alloc (.cells c9.arr 29)) w2.heap.size 29 c9.arr):=aG.Mm rfl;have J5:=qD (J4.out.step ((OG w2.heap.size w2).alloc (qL) (Obj.cells c9.arr 29)));have HR5:=qD (HRY.out.alloc (.cells c9.arr 29));have BE5:Hid (Bl w2 (w2.alloc (.cells c9.arr 29))):=(OG w2.heap.size w2).alloc (qL) (Obj.cells c9.arr 29);generalize w2.alloc (.cells c9.arr 29)=w3 at*;have BE5:Hid (Bl w2 w3):=BE5;generalize hG9:w2.heap.size=g9 at*;have HG9:=qD hG9;clear hG9 NE NG;have k1:=J5.out.b0.cell 1;simp at k1;have hpi:ps.length<=8:=by have:=HPL.out;omega
    clear HRY;cases ha
    ·obtain⟨g0,g1,g2,g3,g4⟩:=aO.Mp JB.out;have hlo:w.heap.size<=w3.heap.size:=J5.out.vs.bel.size;have LK:=qD (J5.out.step ((OG w3.heap.size w3).alloc (qL) (Obj.cells c9.arr 29)));have HRZ:=qD (HR5.out.alloc (.cells c9.arr 29));go_wp2_with (at_builtin;refine aE _ rfl _ _ 26 rfl w.heap.size 29 i0 VC.zero.val 5 80 PM hi0 hy0 hy1 hy2 rfl dE u6 ps.length (aN bD ps) rfl LK.out.vs.own _ _ 1 _ (bD (c9,y)) rfl ⟨rfl,fun _=>⟨_,rfl,On _,ag _ _ _⟩⟩ (cq _) (by unfold maxLen;omega) oM (vY hlo _) ?_);intro v' w4 hown hgr hat;have HI:=qD (LK.out.add (p:=(c9,y)) HRZ.out rfl hown hgr (by rw[mv];exact hat));clear hown hgr hat LK HRZ g0 g1 g2 g3 g4 HR5 JB J5 k1;go_wp2_with fail;go_roundw
     ·exact⟨i+1,ys++[y],ps++[(c9,y)],hlt,by rw[OK,HYL.out];rfl,by rw[Oo,HPS.out];rfl,by go_num,by rw[HV.out],HI.out⟩
     ·exact iO
    ·obtain⟨g0,g1,g2,g3,g4⟩:=aO.Mp JB.out;have HHA:=qD (nz y c9 w3 (HT.out.step J5.out.vs.bel) (HR5.out.mono fun _ _=>trivial));go_wp2_with fail;refine HHA.out.mono ?_;rintro e w4 ⟨rfl,hb⟩;have J6:=qD (J5.out.step hb);have hb4:=qD hb;have JB2:=qD (JB.out.step hb);clear g0 g1 g2 g3 g4 hb HHA HR5 JB J5 k1;obtain⟨g0,g1,g2,g3,g4⟩:=aO.Mp JB2.out;have gz:=JB2.out.frozen;obtain⟨hh,hhe⟩:∃h,cL y=h:=⟨_,rfl⟩;rw[hhe];have HHE:=qD hhe;clear hhe;go_upto_region 12 with fail
     have BE6:Hid (Bl w2 (bM w4 g9 0 ⟨3,hh,empty,none,0,0,none,0,0⟩)):=by
      have h5:Below w2.heap.size w2 w3:=BE5.out;exact aW (h5.Ml hb4.out) (by rw[HG9.out];exact qL) 0 _
     have J7:=qD (J4.out.step BE6.out);have JB3:=qD (JB2.out.putV ⟨3,hh,empty,none,0,0,none,0,0⟩);change Code.wp _ _ _ _ (bM w4 g9 0 ⟨3,hh,empty,none,0,0,none,0,0⟩);generalize bM w4 g9 0 ⟨3,hh,empty,none,0,0,none,0,0⟩=w5 at*;clear g0 g1 g2 g3 g4 gz BE6 BE5 J6 JB2 hb4 J4;obtain⟨g0,g1,g2,g3,g4⟩:=aO.Mp JB3.out;have hlo:w.heap.size<=w5.heap.size:=J7.out.vs.bel.size;have LK:=qD (J7.out.step ((OG w5.heap.size w5).alloc (qL) (Obj.cells (VC.arr ⟨3,hh,empty,none,0,0,none,0,0⟩) 29)));go_wp2_with (at_builtin;refine aE _ rfl _ _ 26 rfl w.heap.size 29 i0 VC.zero.val 5 80 PM hi0 hy0 hy1 hy2 rfl dE u6 ps.length (aN bD ps) rfl LK.out.vs.own _ _ 1 _ (bD (⟨3,hh,empty,none,0,0,none,0,0⟩,ie y)) rfl ⟨rfl,fun _=>⟨_,rfl,On _,ag _ _ _⟩⟩ (cq _) (by unfold maxLen;omega) oM (vY hlo _) ?_);intro v' w6 hown hgr hat;have HI:=qD (LK.out.add (p:=(⟨3,hh,empty,none,0,0,none,0,0⟩,ie y)) (by rw[<-HHE.out];exact EV y) rfl hown hgr (by rw[mv];exact hat));clear hown hgr hat LK g0 g1 g2 g3 g4 JB3 J7;go_wp2_with fail;go_roundw
     ·exact⟨i+1,ys++[y],ps++[(⟨3,hh,empty,none,0,0,none,0,0⟩,ie y)],hlt,by rw[OK,HYL.out];rfl,by rw[Oo,HPS.out,yq];rfl,by go_num,by rw[HV.out],HI.out⟩
     ·exact iO
  ·obtain rfl:i=n:=oM
   have HV:Hid (nD ks ha x=gY (ps.map Prod.snd)):=by
    rw[HPS.out];refine mQ ?_;rw[HVX.out,HA.out,Og (by have:=HN.out;omega),dj];simp
   obtain⟨A1,c1,hu6,hsl⟩:=J2.out.vs.sl (by have:=HPL.out;omega);rw[HPL.out] at hu6 hsl;have HSL:=qD hsl;subst hu6;clear hsl;go_upto_region 14 with fail
   obtain⟨j0,hj0,hz0,hz1,hz2⟩:=Pb qT;have hmk:=fG (P:=prog) 83 4 j0 (.bool false) underlying83 hj0 hz0 i (by rw[hz2];omega) oM;rw[hz1,RY] at hmk;have LK:=qD (J2.out.step ((OG wr.heap.size wr).alloc (qL) (.cells (madeCells #[.bool false] i) 4)));have hec:=qS ps A1 (some ⟨wr.heap.size,0,none⟩) i c1 i (wr.alloc (.cells (madeCells #[.bool false] i) 4)) (HT.out.step LK.out.vs.bel) (HSL.out.step ((OG wr.heap.size wr).alloc (qL) _)) (Hq wr i) oM;rw[<-HV.out] at hec;have HEC:=qD hec;obtain⟨⟨K1,K2⟩,hK⟩:∃K,nD ks ha x=K:=⟨_,rfl⟩;rw[hK] at HEC;have HKK:=qD hK;clear hK HV hec;go_wp2_with fail;refine HEC.out.mono ?_;rintro e w5 ⟨rfl,hb⟩;have CE:=qD (LK.out.vs.bel.Ml hb);clear hb HEC LK J2 HSL hmk;go_wp2;go_ret2;exact⟨by rw[HKK.out];rfl,CE.out⟩
theorem JQ(z:Int)(w:World)(h:Tryz.prog.underlying 5=some (.int .u8)):(convert 133 9 (.slice (some ⟨w.heap.size,0,none⟩) 1 1)).run prog (w.alloc (.cells #[.int .u8 z] 5))=.ok (.string (strOfNums [z])) (w.alloc (.cells #[.int .u8 z] 5)):=by
 refine Qz (P:=prog) _ 133 5 Pd h w.heap.size 0 1 1 [z] rfl (fun i hi=>?_) 9 PY;obtain rfl:i=0:=oM
 exact(aG.new w 5 #[.int .u8 z]).cell 0
theorem kO(n:Int)(w:World):Calls prog 30 #[.int .i64 n] w (Rt w (VC.val ⟨3,n,empty,none,0,0,none,0,0⟩)):=by
 go_enter func30,ntmps30;go_wp2_with fail;exact OO (aD rfl _ _ _ rfl _ ⟨3,n,empty,none,0,0,none,0,0⟩ (aO.Mn (aG.new _ _ _))) rfl ⟨rfl,(OG _ _).alloc (qL) _⟩
theorem qU{x:aC}:∀{ks:List Od} {ys:List aC},dj x ks=some ys->ys.length=ks.length
 | [],ys,h=>by rw[dj] at h;cases h;rfl
 | q::r,ys,h=>by
  rw[dj] at h;split at h
  ·cases h
  ·rename_i y hy
   obtain⟨zs,hz,rfl⟩:=PT.1 h;rw[OZ,qU hz,OZ]
theorem qV{ks:List Od}{x:aC}{ys:List aC}(h:jA ks x=some ys):x.k=5/\aJ x=true/\dj x ks=some ys:=by
 unfold jA at h;split at h
 ·rename_i h1
  exact⟨h1.1,h1.2,h⟩
 ·cases h
theorem CQ{ks:List Od}{x:aC}{ys:List aC}(h:jA ks x=some ys):ys.length=ks.length:=qU (qV h).2.2
def fN(l:List Int):Prop:=∀z∈l,0<=z/\z<256
theorem fN.nil:fN []:=fun z hz=>by simp at hz
theorem fN.app{l m:List Int}(h:fN l)(k:fN m):fN (l++m):=fun z hz=>(OP.1 hz).elim (h z) (k z)
theorem fN.cons{l:List Int}(ha:0<=a/\a<256)(h:fN l):fN (a::l):=fun z hz=>by
 rcases PB.1 hz with rfl|hz
 ·exact ha
 ·exact h z hz
theorem vj(n:Int):fN (nums n):=fun z hz=>by
 obtain⟨j,_,rfl⟩:=PK.1 hz;exact IB n _
theorem vk:∀l:List UInt8,fN (cX l)
 | []=>fN.nil
 | x::r=>by
  rw[cX];refine fN.app ?_ (vk r);unfold mr;have:=x.toNat_lt;split
  ·exact fN.cons oM (fN.cons oM fN.nil)
  ·exact fN.cons oM fN.nil
theorem Hr(s:ByteArray):fN (eI s):=fun z hz=>by
 obtain⟨x,_,rfl⟩:=PK.1 hz;have:=x.toNat_lt;omega
theorem vm:∀l:List aC,(∀y∈l,fN (bR y))->fN (eP l)
 | [],_=>by rw[eP];exact fN.nil
 | y::r,h=>by rw[eP];exact fN.cons oM ((h y sM).app (vm r fun z hz=>h z (by simp[hz])))
theorem Ay:∀l:List bf,(∀f∈l,fN (bR f.v))->fN (eJ l)
 | [],_=>by rw[eJ];exact fN.nil
 | f::r,h=>by
  rw[eJ,mY];exact fN.app (fN.cons oM ((Hr f.s).app (fN.cons oM (h f sM)))) (Ay r fun z hz=>h z (by simp[hz]))
theorem Az(x:aC):aw aM x->fN (bR x):=by
 induction x using aC.ind with
 | h k n t l d ihl ihd=>
  intro hs;obtain⟨hh,hl,hd,_⟩:=(aT aM _).1 hs
  have hk:1<=k/\k<=11:=by
   have:=hh.2.2.2.2;simp only[aC.k] at this;omega
  rw[bR];refine fN.cons oM ?_;split
  ·exact vj n
  split
  ·exact(vk _).app (fN.cons oM (fN.cons oM fN.nil))
  split
  ·exact(vm l fun y hy=>ihl y hy (hl y hy)).app (fN.cons oM fN.nil)
  split
  ·exact(Ay d fun f hf=>ihd f hf (hd f hf)).app (fN.cons oM fN.nil)
  ·exact fN.nil
theorem qW{l:List Int}(h:fN l):((strOfNums l).data.toList.map fun x=>(x.toNat:Int))=l:=by
 rw[RU,Rc]
 conv=>rhs;rw[<-List.map_id l]
 refine List.map_congr_left fun z hz=>?_;have:=h z hz;simp only[Function.comp_apply,id];rw[Sp];omega
theorem jC{l m:List Int}(hl:fN l)(hm:fN m):bh (strOfNums l) (strOfNums m)=bF l m:=by
 unfold bh;rw[rI,qW hl,qW hm]
theorem BA:∀l:List aC,(∀y∈l,aw aM y)->fN (cP l)
 | [],_=>fN.nil
 | y::r,h=>by
  have e:cP (y::r)=bR y++cP r:=by simp[cP]
  rw[e];exact(Az y (h y sM)).app (BA r fun z hz=>h z (by simp[hz]))
theorem jX{x:aC}(h:aJ x=true):x.size<=1024/\x.Ms<=16/\aw aM x:=by
 unfold aJ at h;simp only[Ov,Pm] at h;exact⟨h.1.1,h.1.2,eE.1 h.2⟩
theorem Ku:aJ cR=true:=by
 have hs:aw aM cR:=(aT _ _).2 ⟨by simp[dU,cR,aC.k,aC.n,aC.t,aC.l,aC.d],by simp[cR,aC.l],by simp[cR,aC.d],by simp[cR,aC.d,ib]⟩;have h1:cR.size=1:=by simp[cR,aC.size]
 have h2:cR.Ms=1:=by simp[cR,aC.Ms]
 unfold aJ;rw[OM oM,OM oM,ci hs];rfl
theorem Kv:bS cR:=by
 unfold cR;simp[bS,tW,tX,gx]
theorem JR{x:aC}{f:bf}(h:aJ x=true)(hk:x.k=5)(hf:f∈x.d):aJ f.v=true:=by
 obtain⟨h1,h2,h3⟩:=jX h
 have hm:f.v∈x.parts:=by
  unfold aC.parts;rw[OQ oM,OW hk];exact PD hf
 have a:=cy hm;have b:=iG hm;have hs:=((aT aM x).1 h3).2.2.1 f hf;unfold aJ;rw[OM oM,OM oM,ci hs];rfl
theorem oA{x y:aC}(h:eG x s=some y):x.k=5/\∃f∈x.d,f.v=y:=by
 have hk:x.k=5:=by
  rcases Classical.em (x.k=5) with h5|h5
  ·exact h5
  ·rw[pD s h5] at h;cases h
 refine⟨hk,?_⟩;unfold eG at h;split at h
 ·obtain⟨f,hf,rfl⟩:=PT.1 h;exact⟨f,OJ hf,rfl⟩
 ·cases h
theorem pI:∀(l:List ByteArray) (x y:aC),aJ x=true->bS x->cT x l=some y->aJ y=true/\bS y
 | [],x,y,hx,hn,h=>by
  rw[cT] at h;split at h
  ·cases h
  ·cases h;exact⟨hx,hn⟩
 | s::r,x,y,hx,hn,h=>by
  rw[cT] at h;split at h
  ·cases h
  ·split at h
   ·cases h;exact⟨Ku,Kv⟩
   ·rename_i z hz
    obtain⟨hk,f,hf,rfl⟩:=oA hz;exact pI r f.v y (JR hx hk hf) (((fT x).1 hn).2.2 f hf) h
theorem kP{x:aC}(hx:aJ x=true)(hn:bS x):∀(ks:List Od) (ys:List aC),dj x ks=some ys->∀y∈ys,aJ y=true/\bS y
 | [],ys,h,y,hy=>by rw[dj] at h;cases h;simp at hy
 | q::r,ys,h,y,hy=>by
  rw[dj] at h;split at h
  ·cases h
  ·rename_i z hz
   obtain⟨zs,hzs,rfl⟩:=PT.1 h;rcases PB.1 hy with rfl|hy
   ·exact pI q.p x y hx hn hz
   ·exact kP hx hn r zs hzs y hy
theorem kQ{x:aC}(h:aJ x=true):dx x=true:=by unfold dx;rw[h,Bool.or_true]
theorem JS(y:aC):aJ (ie y)=true:=by
 have hs:aw aM (ie y):=(aT _ _).2 ⟨⟨.inl rfl,.inr (.inr (.inr rfl)),.inr rfl,.inr rfl,.inr (.inr (.inr (.inl rfl)))⟩,by simp[ie,aC.l],by simp[ie,aC.d],by simp[ie,aC.d,ib]⟩;have h1:(ie y).size=1:=by simp[ie,aC.size]
 have h2:(ie y).Ms=1:=by simp[ie,aC.Ms]
 unfold aJ;rw[OM oM,OM oM,ci hs];rfl
theorem JT{ks:List Od}{x:aC}{ys:List aC}(h:jA ks x=some ys)(hn:bS x):nD ks ha x=(strOfNums (cP (ig ha ys)),0):=by
 rw[mQ h];obtain⟨_,hv,ha'⟩:=qV h;refine jh ?_;unfold dr;rw[Qd];intro y hy;cases ha
 ·exact kQ (kP hv hn ks ys ha' y hy).1
 ·obtain⟨z,_,rfl⟩:=PK.1 (show y∈ys.map ie from hy);exact kQ (JS z)
theorem JU{x:aC}(h:aJ x=true)(hn:bS x):BZ x:=⟨(jX h).2.2,hn⟩
theorem oh:∀(a b:List Int),bF b a=-bF a b
 | [],[]=>rfl
 | [],_::_=>rfl
 | _::_,[]=>rfl
 | x::r,y::s=>by
  rw[bF,bF,oh r s];split<;>split<;>first|omega|rfl
theorem qX(a:List Int):bF [] a<=0:=by cases a<;>simp[bF]
theorem qB:∀(a b c:List Int),bF a b<=0->bF b c<=0->bF a c<=0/\(bF a b<0\/bF b c<0->bF a c<0)
 | [],b,[],_,h=>by
  cases b with
  | nil=>exact⟨by simp[bF],fun h=>by simp[bF] at h⟩
  | cons x r=>simp[bF] at h
 | [],_,_::_,_,_=>⟨by simp[bF],fun _=>by simp[bF]⟩
 | x::r,[],_,h,_=>by simp[bF] at h
 | x::r,y::s,[],_,h=>by simp[bF] at h
 | x::r,y::s,z::t,h1,h2=>by
  simp only[bF] at h1 h2 ⊢;by_cases a1:x<y
  ·rw[OW a1] at*;by_cases a2:y<z
   ·rw[OW oM];exact⟨by omega,fun _=>by omega⟩
   ·rw[OQ a2] at*;by_cases a3:z<y
    ·rw[OW a3] at h2;omega
    ·rw[OW oM];exact⟨by omega,fun _=>by omega⟩
  ·rw[OQ a1] at*;by_cases b1:y<x
   ·rw[OW b1] at h1;omega
   ·rw[OQ b1] at*;by_cases a2:y<z
    ·rw[OW oM];exact⟨by omega,fun _=>by omega⟩
    ·rw[OQ a2] at*;by_cases a3:z<y
     ·rw[OW a3] at h2;omega
     ·rw[OQ a3] at*;rw[OQ oM,OQ oM];exact qB r s t h1 h2
theorem yu{a b c:List Int}(h1:bF a b<=0)(h2:bF b c<0):bF a c<0:=(qB a b c h1 oM).2 (.inr h2)
theorem nE{a b c:List Int}(h1:bF a b<0)(h2:bF b c<=0):bF a c<0:=(qB a b c oM h2).2 (.inl h1)
def bJ:List Int->Option (List Int)
 | []=>none
 | x::r=>match bJ r with
  | some t=>some (x::t)
  | none=>if x=255 then none else some [x+1]
theorem lN:∀{l:List Int},bJ l=none->∀x∈l,x=255
 | [],_,x,hx=>by simp at hx
 | y::r,h,x,hx=>by
  unfold bJ at h;cases hr:bJ r with
  | some t=>rw[hr] at h;simp at h
  | none=>
   rw[hr] at h;simp only at h;by_cases hy:y=255
   ·rcases PB.1 hx with rfl|hx
    ·exact hy
    ·exact lN hr x hx
   ·rw[OQ hy] at h;simp at h
theorem pJ{l:List Int}(hx:x∈l)(h:x≠255):∃t,bJ l=some t:=by
 cases e:bJ l with
 | some t=>exact⟨t,rfl⟩
 | none=>exact absurd (lN e x hx) h
theorem iT:∀{l t:List Int},bJ l=some t->∀a,bF (l++a) t<0
 | [],t,h,a=>by simp[bJ] at h
 | x::r,t,h,a=>by
  unfold bJ at h;cases hr:bJ r with
  | some u=>
   rw[hr] at h;simp only[PU] at h;subst h;rw[Of,bk];exact iT hr a
  | none=>
   rw[hr] at h;simp only at h;by_cases hy:x=255
   ·rw[OW hy] at h;simp at h
   ·rw[OQ hy] at h;simp only[PU] at h;subst h;rw[Of,ep oM];omega
theorem EW:∀{y:List Int} {m:Nat},fN y->y.length<m->¬bF (List.replicate m 255) y<0
 | [],0,_,h=>by simp at h
 | [],m+1,_,_=>by simp[List.replicate,bF]
 | y::s,0,_,h=>by simp at h
 | y::s,m+1,hy,h=>by
  have h0:=hy y sM;have ih:=EW (y:=s) (m:=m) (fun z hz=>hy z (by simp[hz])) (by simpa using h);rw[List.replicate_succ,bF,OQ oM];split
  ·omega
  ·exact ih
theorem tG:∀{l t:List Int},bJ l=some t->∀{y:List Int},fN y->(∀a,bF (l++a) y<0)->bF t y<=0
 | [],t,h,y,_,_=>by simp[bJ] at h
 | x::r,t,h,[],_,hy=>by have:=hy [];simp[bF] at this
 | x::r,t,h,y::s,hr0,hy=>by
  have hxy:x<=y:=by
   have:=hy [];rw[Of,bF] at this;split at this
   ·omega
   ·split at this
    ·omega
    ·omega
  unfold bJ at h;cases hr:bJ r with
  | some u=>
   rw[hr] at h;simp only[PU] at h;subst h;by_cases hlt:x<y
   ·rw[ep hlt];omega
   ·obtain rfl:x=y:=oM
    rw[bk];refine tG hr (fun z hz=>hr0 z (by simp[hz])) fun a=>?_;have:=hy a
    rwa [Of,bk] at this
  | none=>
   rw[hr] at h;simp only at h;by_cases h255:x=255
   ·rw[OW h255] at h;simp at h
   ·rw[OQ h255] at h;simp only[PU] at h;subst h;by_cases hlt:x<y
    ·rw[bF];split
     ·omega
     ·split
      ·omega
      ·exact qX s
    ·obtain rfl:x=y:=oM
     exfalso;have h1:=hy (List.replicate (s.length+1) 255);rw[Of,bk] at h1
     have e:r++List.replicate (s.length+1) 255=List.replicate (r.length+(s.length+1)) 255:=by
      rw[show r=List.replicate r.length 255 from List.eq_replicate_iff.2 ⟨rfl,lN hr⟩,List.length_replicate,List.replicate_append_replicate]
     rw[e] at h1;exact EW (fun z hz=>hr0 z (by simp[hz])) oM h1
theorem mR:∀{l t:List Int},fN l->bJ l=some t->fN t
 | [],t,_,h=>by simp[bJ] at h
 | x::r,t,hl,h=>by
  have hx:=hl x sM;unfold bJ at h;cases hr:bJ r with
  | some u=>
   rw[hr] at h;simp only[PU] at h;subst h;exact fN.cons hx (mR (fun z hz=>hl z (by simp[hz])) hr)
  | none=>
   rw[hr] at h;simp only at h;by_cases h255:x=255
   ·rw[OW h255] at h;simp at h
   ·rw[OQ h255] at h;simp only[PU] at h;subst h;exact fN.cons oM fN.nil
def dy(a:cx):List Int:=if a.2 then(bJ (bR a.1)).getD [] else bR a.1
def VO(a:cx):Prop:=aJ a.1=true/\bS a.1
theorem VO.or{a:cx}(h:VO a):BZ a.1:=JU h.1 h.2
theorem VO.rng{a:cx}(h:VO a):fN (bR a.1):=Az a.1 (jX h.1).2.2
theorem VO.after{a:cx}(h:VO a):∃t,bJ (bR a.1)=some t:=by
 have hk:=dm h.1;rw[dG];exact pJ (x:=a.1.k) sM oM
theorem VO.NS{a:cx}(h:VO a):fN (dy a):=by
 unfold dy;obtain⟨t,ht⟩:=h.after;split
 ·rw[ht];exact mR h.rng ht
 ·exact h.rng
theorem qY{a b:cx}(ha:VO a)(hb:VO b)(h:aq a b<0):bF (dy a) (dy b)<=0/\(¬(a.2=true/\b.2=false)->bF (dy a) (dy b)<0):=by
 obtain⟨x,p⟩:=a;obtain⟨y,q⟩:=b;obtain⟨t,ht⟩:=ha.after;obtain⟨u,hu⟩:=hb.after;simp only at ht hu;have gu:=iT hu [];rw[Om] at gu;by_cases h0:aZ x y=0
 ·have e:x=y:=mO (nm:=aM) x y (jX ha.1).2.2 (jX hb.1).2.2 h0;subst e
  have hpq:p=false/\q=true:=by
   unfold aq mi yP at h;simp only[h0] at h;cases p<;>cases q<;>simp_all
  obtain⟨rfl,rfl⟩:=hpq;unfold dy;simp only[hu,Qe,Qv,TQ,Rr];exact⟨by omega,fun _=>gu⟩
 ·have hlt:aZ x y<0:=by
   unfold aq mi at h;by_cases h':aZ x y<0
   ·exact h'
   ·simp_all
  have ho:∀c d,bF (bR x++c) (bR y++d)<0:=fun c d=>by
   rw[tZ x y ha.or hb.or c d,FH h0];exact hlt
  have h1:bF (bR x) (bR y)<0:=by have:=ho [] [];rwa [Om,Om] at this
  have h2:bF t (bR y)<=0:=tG ht hb.rng fun c=>by have:=ho c [];rwa [Om] at this
  unfold dy;simp only[ht,hu,Qe];cases p<;>cases q<;>simp only[Qv,TQ,Rr]
  ·exact⟨by omega,fun _=>h1⟩
  ·have:=nE h1 (show bF (bR y) u<=0 by omega);exact⟨by omega,fun _=>this⟩
  ·exact⟨h2,fun h=>absurd ⟨trivial,trivial⟩ h⟩
  ·have:=yu h2 gu;exact⟨by omega,fun _=>this⟩
end
structure cp(S:cx->Prop):Prop where
 lo:∀a,jb a->zK aq jb S a->bS a.1/\(a.2=true->∀b,VO b->aq a b<0->¬bF (dy a) (dy b)<0->S b)
 hi:∀a,jb a->yO aq jb S a->bS a.1
section
variable {k b n g m lo S:Nat} {e t:TypeId} {a op x y:Int} {l r:List ByteArray} {v:Value} {s:ByteArray} {ha:Bool}
theorem cp.congr{S T:cx->Prop}(h:cp S)(e:∀a,jb a->(S a↔T a)):cp T:=
 ⟨fun a ha k=>by
  obtain⟨h1,h2⟩:=h.lo a ha (k.congr ha fun b hb=>(e b hb).symm)
  exact⟨h1,fun h3 b hb h4 h5=>(e b hb.1).1 (h2 h3 b hb h4 h5)⟩,fun a ha k=>h.hi a ha (k.congr ha fun b hb=>(e b hb).symm)⟩
theorem cp.or{S T:cx->Prop}(h:cp S)(k:cp T):cp fun a=>S a\/T a:=by
 refine⟨fun a ha m=>?_,fun a ha m=>?_⟩
 ·rcases m.or with m|m
  ·obtain⟨h1,h2⟩:=h.lo a ha m;exact⟨h1,fun h3 b hb h4 h5=>.inl (h2 h3 b hb h4 h5)⟩
  ·obtain⟨h1,h2⟩:=k.lo a ha m;exact⟨h1,fun h3 b hb h4 h5=>.inr (h2 h3 b hb h4 h5)⟩
 ·rcases m.or dF with m|m
  ·exact h.hi a ha m
  ·exact k.hi a ha m
theorem cp.none:cp fun _=>False:=by
 refine⟨fun a _ m=>m.1.elim,fun a _ m=>?_⟩;obtain⟨_,⟨c,c1,c2⟩,h3⟩:=m;obtain⟨d,_,_,_,d4⟩:=h3 c c1 c2;exact d4.elim
theorem cp.any:∀{rs:List iz},(∀r∈rs,cp r.1)->cp fun a=>∃r∈rs,r.1 a
 | [],_=>cp.none.congr fun a _=>⟨fun h=>h.elim,fun⟨_,h,_⟩=>by cases h⟩
 | r::rs,h=>by
  have h1:=cp.any (rs:=rs) fun x hx=>h x (List.mem_cons_of_mem _ hx);refine((h r List.mem_cons_self).or h1).congr fun a _=>?_;constructor
  ·rintro(k|⟨x,hx,k⟩)
   ·exact⟨r,List.mem_cons_self,k⟩
   ·exact⟨x,List.mem_cons_of_mem _ hx,k⟩
  ·rintro⟨x,hx,k⟩;rcases PB.1 hx with rfl|hx
   ·exact .inl k
   ·exact .inr ⟨x,hx,k⟩
theorem cp.NK{l:List Iv}(h:∀x∈l,x.ne=true->bS x.lo/\bS x.hi/\(x.li=false->bF (dy x.sp.1) (dy x.sp.2)<0)):cp fun a=>ei aq a (aV l):=by
 have hv:∀s∈aV l,jb s.1/\jb s.2:=fun s hs=>(mX s hs).2;refine⟨fun a ha m=>?_,fun a ha m=>?_⟩
 ·obtain⟨s,hs,rfl⟩:=m.mem dF hv ha;obtain⟨x,hx,rfl⟩:=PK.1 hs;obtain⟨hx1,hx2⟩:=RI.1 hx;obtain⟨n1,n2,n3⟩:=h x hx1 hx2;have ne:=Ex hx2;refine⟨n1,fun h2 b hb h4 h5=>⟨x.sp,hs,by omega,?_⟩⟩;have h6:x.li=false:=by simpa[Iv.sp] using h2
  have h7:=n3 h6;have an:=dF.anti b x.sp.2;by_cases e0:aq b x.sp.2=0
  ·have:=dF.eq b x.sp.2 hb.1 ne.2.2 e0;rw[this] at h5;exact absurd h7 h5
  ·by_cases e1:aq b x.sp.2<0
   ·exact e1
   ·have k:=(qY (a:=x.sp.2) (b:=b) ⟨ne.2.2,n2⟩ hb oM).1;exact absurd (nE h7 k) h5
 ·obtain⟨s,hs,rfl⟩:=m.mem dF hv ha;obtain⟨x,hx,rfl⟩:=PK.1 hs;obtain⟨hx1,hx2⟩:=RI.1 hx;exact(h x hx1 hx2).2.1
theorem eh{k n:Int}{t:ByteArray}(h:gx n):bS (.mk k n t [] []):=(fT _).2 ⟨h,by simp[aC.l],by simp[aC.d]⟩
theorem gE(k:Int):bS (cF k):=by
 unfold cF jZ;split
 ·exact eh (by unfold gx;decide)
 ·split<;>exact eh (by unfold gx;decide)
theorem gG(k:Int):bS (bA k).lo/\bS (bA k).hi/\(bA k).li=true:=by
 unfold bA;split
 ·exact⟨gE k,eh (by unfold gx;decide),rfl⟩
 ·split
  ·exact⟨gE k,eh (by unfold gx;decide),rfl⟩
  ·split
   ·exact⟨gE k,gE _,rfl⟩
   ·exact⟨gE k,gE k,rfl⟩
theorem CR{k:Int}(h:k=4\/k=5\/k=7\/k=8):∃y r,bR (cF (k+1))=(k+1)::y::r:=by
 rcases h with rfl|rfl|rfl|rfl
 ·exact⟨_,_,by rw[dG];rfl⟩
 ·exact⟨_,_,by rw[dG];rfl⟩
 ·exact⟨_,_,by rw[dG];rfl⟩
 ·exact⟨_,_,by rw[dG];rfl⟩
theorem JV{x:aC}(hv:aJ x=true)(hn:bS x)(h6:x.k≠6)(hlt:aq (x,true) ((bA x.k).hi,(bA x.k).hin)<0)(hh:aJ (bA x.k).hi=true):
 bF (dy (x,true)) (dy ((bA x.k).hi,(bA x.k).hin))<0:=by
 have hb:VO ((bA x.k).hi,(bA x.k).hin):=⟨hh,(gG x.k).2.1⟩;have ha:VO (x,true):=⟨hv,hn⟩;have hk:=dm hv;by_cases hin:(bA x.k).hin=true
 ·exact(qY ha hb hlt).2 fun h=>by have:=h.2;simp only at this;rw[hin] at this;simp at this
 ·have k4:x.k=4\/x.k=5\/x.k=7\/x.k=8:=by
   unfold bA at hin;split at hin
   ·simp at hin
   ·split at hin
    ·simp at hin
    ·split at hin
     ·omega
     ·simp at hin
  have e:bA x.k=⟨cF x.k,cF (x.k+1),true,false⟩:=by
   unfold bA;rw[OQ oM,OQ oM,OW oM]
  rw[e];obtain⟨y,r,hy⟩:=CR k4;obtain⟨t,ht⟩:=ha.after;obtain⟨T,hT⟩:∃T,bR x=x.k::T:=⟨_,dG _⟩;unfold dy;simp only[Rr,Qv,TQ];rw[hy];simp only at ht;rw[ht,Qe];rw[hT] at ht;unfold bJ at ht;cases hr:bJ T with
  | some u=>
   rw[hr] at ht;simp only[PU] at ht;subst ht;rw[ep oM];omega
  | none=>
   rw[hr] at ht;simp only at ht;rw[OQ oM] at ht;simp only[PU] at ht;subst ht;rw[bk];simp[bF]
theorem mS:cp fe:=cp.NK (l:=[lW]) fun x hx _=>by
 obtain rfl:x=lW:=by simpa using hx
 exact⟨eh (by unfold gx;decide),eh (by unfold gx;decide),fun h=>by simp[lW] at h⟩
theorem BC{v:aC}(h:bS v):bS (eZ v).lo/\bS (eZ v).hi/\((eZ v).li=false->bF (dy (eZ v).sp.1) (dy (eZ v).sp.2)<0):=⟨h,h,fun h=>by simp[eZ] at h⟩
theorem CS{n:Int}{arg:aC}{args:List aC}{r:List Iv×Bool}(h:eA op arg args n=some r)(hn:bS arg)(hs:∀x∈args,bS x):cp fun a=>ei aq a (aV r.1):=by
 unfold eA at h;split at h
 ·split at h
  ·simp at h
  ·obtain rfl:=QB h
   exact cp.NK fun x hx _=>by
    obtain rfl:x=eZ arg:=by simpa using hx
    exact BC hn
 ·split at h
  ·rename_i hop
   split at h
   ·simp at h
   ·rename_i h6
    obtain rfl:=QB h;refine cp.NK fun x hx hne=>?_;obtain rfl:x=pm op arg:=by simpa using hx
    have hr:=gG arg.k;unfold pm at hne ⊢;by_cases h45:op=4\/op=5
    ·rw[OW h45] at hne ⊢;refine⟨hn,hr.2.1,fun h5=>?_⟩;have hp:=Ex hne;simp only[Iv.sp] at hp ⊢;simp only at h5;rw[h5] at hp ⊢;exact JV hp.2.1 hn h6 hp.1 hp.2.2
    ·rw[OQ h45];exact⟨hr.1,hn,fun h5=>by simp only at h5;rw[hr.2.2] at h5;simp at h5⟩
  ·split at h
   ·split at h
    ·simp at h
    ·obtain rfl:=QB h
     exact cp.NK fun x hx _=>by
      obtain⟨v,hv,rfl⟩:=PK.1 hx;exact BC (hs v hv)
   ·split at h
    ·obtain rfl:=QB h;refine cp.NK fun x hx _=>?_;obtain rfl:x=(nI arg).1:=by simpa using hx
     unfold nI;split
     ·split
      ·exact⟨hn,eh (by unfold gx;decide),fun h=>by simp at h⟩
      ·exact⟨hn,eh (by unfold gx;decide),fun h=>by simp at h⟩
     ·exact⟨hn,eh (by unfold gx;decide),fun h=>by simp at h⟩
    ·split at h
     ·split at h
      ·simp at h
      ·obtain rfl:=QB h;refine cp.NK fun x hx _=>?_;obtain rfl:x=bA n:=by simpa using hx
       have hr:=gG n;exact⟨hr.1,hr.2.1,fun h=>by rw[hr.2.2] at h;simp at h⟩
     ·simp at h
theorem pK:∀{rs:List iz},(∀r∈rs,cp r.1)->cp (fO rs).1
 | [],_=>mS
 | r::rs,h=>by
  unfold fO;split
  ·exact pK fun x hx=>h x (by simp[hx])
  ·exact h r sM
theorem EX(l:List ByteArray):∀{p:aj},jN p->cp (gN l p).1:=by
 intro p
 induction p using aj.ind with
 | h p ih=>
  intro hn;obtain⟨n1,n2,n3⟩:=(ta p).1 hn
  have hk:∀r∈p.kids.map (gN l),cp r.1:=by
   intro r hr;obtain⟨k,hk,rfl⟩:=PK.1 hr;exact ih k hk (n3 k hk)
  by_cases h20:p.op=20
  ·rw[ui h20];unfold rB;split
   ·rename_i r e
    exact hk r (by rw[e];simp)
   ·exact pK hk
  ·by_cases h21:p.op=21
   ·rw[zP h21];unfold Cu;split
    ·exact mS
    ·exact cp.any hk
   ·by_cases hp:p.path.xs=l
    ·rw[rE h20 h21 hp];unfold eR;split
     ·rename_i r e
      exact CS e n1 fun x hx=>by
       obtain⟨y,hy,rfl⟩:=PK.1 hx;exact n2 y hy
     ·exact mS
    ·rw[rF h20 h21 hp];exact mS
theorem cp.nf{S:cx->Prop}(h:cp S){m:List (cx×cx)}(hm:jw S m){s:cx×cx}(hs:s∈m):VO s.1/\VO s.2/\bF (dy s.1) (dy s.2)<0:=by
 have ne:=hm.1.ne s hs;have l1:zK aq jb S s.1:=(hm.1.lo dF hs).congr ne.2.1 fun a _=>hm.2 a;have l2:yO aq jb S s.2:=(hm.1.hi dF hs).congr ne.2.2 fun a _=>hm.2 a;obtain⟨g1,g2⟩:=h.lo _ ne.2.1 l1;have v1:VO s.1:=⟨ne.2.1,g1⟩;have v2:VO s.2:=⟨ne.2.2,h.hi _ ne.2.2 l2⟩;refine⟨v1,v2,?_⟩;by_cases hc:bF (dy s.1) (dy s.2)<0
 ·exact hc
 ·by_cases h2:s.1.2=true
  ·exact absurd (g2 h2 _ v2 ne.1 hc) l2.1
  ·exact(qY v1 v2 ne.1).2 fun k=>h2 k.1
abbrev BG(a b:ByteArray):Prop:=bh a b<0
theorem qZ:Lw BG:=by
 refine⟨fun a=>?_,fun {a b c} h k=>?_,fun a b=>?_⟩
 ·show ¬bh a a<0;rw[jf.2 rfl];omega
 ·have:=nk a b c;unfold TR at this;show bh a c<0;have h':bh a b<0:=h;have k':bh b c<0:=k;omega
 ·show bh a b<0\/a=b\/bh b a<0;have:=gC a b;by_cases h:bh a b=0
  ·exact .inr (.inl (jf.1 h))
  ·omega
theorem CT:strOfNums []=empty:=rfl
theorem EY{l:List Int}(h:l≠[]):strOfNums l≠empty:=by
 intro e;have:=congrArg (fun b=>b.data.toList.length) e;simp only[RU] at this;simp at this;exact h this
theorem CU{l:List Int}(hl:fN l)(h:l≠[]):BG empty (strOfNums l):=by
 show bh _ _<0;rw[<-CT,jC fN.nil hl];cases l with
 | nil=>exact absurd rfl h
 | cons a r=>simp[bF]
theorem CV:∀{l t:List Int},bJ l=some t->t≠[]
 | [],t,h=>by simp[bJ] at h
 | x::r,t,h=>by
  unfold bJ at h;split at h
  ·simp at h;subst h;simp
  ·split at h
   ·simp at h
   ·simp at h;subst h;simp
theorem VO.ne{a:cx}(h:VO a):dy a≠[]:=by
 unfold dy;obtain⟨t,ht⟩:=h.after;split
 ·rw[ht];exact CV ht
 ·rw[dG];simp
open Classical in
noncomputable def ii(a:cx):ByteArray:=if a=(im,false) then empty else strOfNums (dy a)
open Classical in
noncomputable def iC(a:cx):ByteArray:=if a=(iP,true) then empty else strOfNums (dy a)
noncomputable def fY(s:cx×cx):ByteArray×ByteArray:=(ii s.1,iC s.2)
theorem EZ{a b:cx}(hb:VO b)(h:a=(im,false)\/(VO a/\bF (dy a) (dy b)<0)):BG (ii a) (strOfNums (dy b)):=by
 unfold ii;by_cases e:a=(im,false)
 ·rw[OW e];exact CU hb.NS hb.ne
 ·rw[OQ e];obtain⟨h1,h2⟩:=h.resolve_left e;show bh _ _<0;rw[jC h1.NS hb.NS];exact h2
theorem Ea{a b:cx}(ha:jb a)(h:aq a b<0):b≠(im,false):=by
 rintro rfl;have h1:=Ev ha;have:=dF.anti a (im,false);omega
theorem CW{a b:cx}(hb:jb b)(h:aq a b<0):a≠(iP,true):=by
 rintro rfl;have h1:=Ew hb;have:=dF.anti b (iP,true);omega
section
variable {S:cx->Prop} {m:List (cx×cx)}
theorem CX(g:cp S)(h:jw S m):Kl BG empty (m.map fY):=by
 refine⟨fun x hx=>?_,fun i x y hx hy=>?_⟩
 ·obtain⟨s,hs,rfl⟩:=PK.1 hx;obtain⟨s1,s2,s3⟩:=g.nf h hs;by_cases e:s.2=(iP,true)
  ·exact .inl (OW e)
  ·refine .inr ?_;show BG (ii s.1) (iC s.2);rw[show iC s.2=strOfNums (dy s.2) from OQ e];exact EZ s2 (.inr ⟨s1,s3⟩)
 ·rw[OT] at hx hy;obtain⟨s,hs,rfl⟩:=PT.1 hx;obtain⟨t,ht,rfl⟩:=PT.1 hy;obtain⟨s1,s2,s3⟩:=g.nf h (OJ hs);obtain⟨t1,t2,t3⟩:=g.nf h (OJ ht);have hi:=(OI.1 hs).1;have hj:=(OI.1 ht).1
  have hst:aq s.2 t.1<0:=by
   have:=RC.1 h.1.ord i (i+1) hi hj oM;rw[(OI.1 hs).2,(OI.1 ht).2] at this;exact this
  have e1:iC s.2=strOfNums (dy s.2):=OQ (CW t1.1 hst);have e2:ii t.1=strOfNums (dy t.1):=OQ (Ea s2.1 hst);show iC s.2≠empty/\¬BG (ii t.1) (iC s.2);rw[e1,e2];refine⟨EY s2.ne,?_⟩;show ¬bh _ _<0;rw[jC t1.NS s2.NS];have:=(qY s2 t1 hst).1;have:=oh (dy s.2) (dy t.1);omega
end
def gg(n:Int):List Int:=3::nums n
def kS(n:Int):ByteArray×ByteArray:=(strOfNums (gg n),strOfNums ((bJ (gg n)).getD []))
theorem qa(n:Int):fN (gg n):=fN.cons oM (vj n)
theorem qb(n:Int):∃t,bJ (gg n)=some t:=pJ (x:=3) (by simp[gg]) oM
end
structure cM{α:Type}(cm:α->α->Int):Prop where
 anti:∀x y,cm y x=-cm x y
 tr:∀x y z,TR (cm x y) (cm y z) (cm x z)
section
variable {k b n g i c base ln dn q lc off size j dc:Nat} {w w':World} {e t:TypeId} {P:Program} {a x y:Int} {l:List ByteArray} {v:Value} {s:ByteArray} {A LA DA:Option Addr} {xs:List Value}
section
variable {α:Type} (cm:α->α->Int)
def RT(x y:α×Nat):Prop:=cm x.1 y.1<0\/cm x.1 y.1=0/\x.2<y.2
variable {cm}
theorem RT.trans(H:cM cm){x y z:α×Nat}(h1:RT cm x y)(h2:RT cm y z):RT cm x z:=by
 unfold RT at*;have:=H.tr x.1 y.1 z.1 oM oM;omega
def gH(l:List (α×Nat)):Prop:=l.Pairwise fun x y=>x.2<y.2
structure aS(cm:α->α->Int)(l S:List (α×Nat)):Prop where
 perm:S.Perm l
 ord:S.Pairwise (RT cm)
theorem aS.nil:aS cm ([]:List (α×Nat)) []:=⟨.nil,.nil⟩
theorem aS.one(x:α×Nat):aS cm [x] [x]:=⟨.refl _,by simp⟩
theorem aS.insert(H:cM cm){P S1 S2:List (α×Nat)}{x:α×Nat}(h:aS cm P (S1++S2))(ht:∀y∈P,y.2<x.2)(h2:∀y∈S2,cm x.1 y.1<0)(h1:∀y,S1.getLast?=some y->¬cm x.1 y.1<0):aS cm (P++[x]) (S1++x::S2):=by
 refine⟨?_,?_⟩
 ·have e1:(S1++x::S2).Perm (x::(S1++S2)):=SW;have e2:(x::(S1++S2)).Perm (x::P):=h.perm.cons x;have e3:(x::P).Perm (P++[x]):=(Rm x P).symm;exact e1.trans (e2.trans e3)
 ·have ho:=h.ord;rw[Oi] at ho ⊢;refine⟨ho.1,?_,?_⟩
  ·rw[SA];exact⟨fun y hy=>.inl (h2 y hy),ho.2.1⟩
  ·intro y hy z hz;rcases PB.1 hz with rfl|hz
   ·have hyP:y∈P:=h.perm.subset (by simp[hy]);rcases QT S1 with rfl|⟨S,q,rfl⟩
    ·simp at hy
    ·have hq:¬cm z.1 q.1<0:=h1 q sM;have hqP:q∈P:=h.perm.subset sM
     have hqz:RT cm q z:=by
      unfold RT;have:=H.anti z.1 q.1;have:=ht q hqP;omega
     simp only[QG,OP,Ox] at hy;rcases hy with hy|rfl
     ·have:RT cm y q:=by
       have h3:=ho.1;simp only[QG] at h3;rw[Oi] at h3;exact h3.2.2 y hy q sM
      exact RT.trans H this hqz
     ·exact hqz
   ·exact ho.2.2 y hy z hz
def bi:Nat->List α->List (α×Nat)
 | _,[]=>[]
 | n,x::r=>(x,n)::bi (n+1) r
theorem lO(l:List α):∀n,(bi n l).map Prod.fst=l:=by
 induction l with
 | nil=>intro n;rfl
 | cons x r ih=>intro n;simp[bi,ih]
theorem yw(l:List α):∀n,∀y∈bi n l,n<=y.2:=by
 induction l with
 | nil=>intro n y hy;simp[bi] at hy
 | cons x r ih=>
  intro n y hy;simp only[bi,PB] at hy;rcases hy with rfl|hy
  ·exact qL
  ·have:=ih (n+1) y hy;omega
theorem lP(l:List α):∀n,gH (bi n l):=by
 induction l with
 | nil=>intro n;simp[bi,gH]
 | cons x r ih=>
  intro n;simp only[bi,gH,SA];exact⟨fun y hy=>by have:=yw r (n+1) y hy;show n<y.2;omega,ih (n+1)⟩
theorem fh(l:List α):∀n,(bi n l).length=l.length:=by
 induction l with
 | nil=>intro n;rfl
 | cons x r ih=>intro n;simp[bi,ih]
end
theorem vo{α:Type}{rec:α->List Value}{s:Nat}(hs:∀a,(rec a).length=s):∀(l:List α) (j:Nat) (a:α),j<l.length->aN rec (l.set j a)=dO (aN rec l) (j*s) (rec a):=by
 intro l
 induction l with
 | nil=>intro j a h;simp at h
 | cons x r ih=>
  intro j a h;have e:∀(y:α) (t:List α),aN rec (y::t)=rec y++aN rec t:=fun _ _=>rfl;have hl:=bv hs (x::r);have hlr:=bv hs r;simp only[OZ] at hl h;have hm:(j+1)*s<=(r.length+1)*s:=Ot s oM;rw[QJ] at hm;rw[mx _ _ _ (by rw[hs,hl];omega),hs];cases j with
  | zero=>
   rw[List.set_cons_zero,e,e];simp[hs]
  | succ j=>
   have hm2:(j+1)*s<=r.length*s:=Ot s oM;rw[QJ] at hm2;rw[List.set_cons_succ,e,e,ih j a oM,mx _ _ _ (by rw[hs,hlr];omega),hs,show(j+1)*s=s+j*s by rw[QJ];omega]
   have e1:(rec x++aN rec r).take (s+j*s)=rec x++(aN rec r).take (j*s):=by
    have:=Sk (l₁:=rec x) (l₂:=aN rec r) (j*s)
    rwa [hs] at this
   have e2:(rec x++aN rec r).drop (s+j*s+s)=(aN rec r).drop (j*s+s):=by
    have:=Ri (l₁:=rec x) (l₂:=aN rec r) (j*s+s);rw[hs] at this;rw[show s+j*s+s=s+(j*s+s) by omega];exact this
   rw[e1,e2];simp only[OY]
abbrev PC:=PV×Bool
abbrev PS:=PC×PC
abbrev PI:=(PV×PV)×(Bool×Bool)
def lQ(p:PC):List Value:=bD p.1++[.bool p.2]
def dR(p:PS):List Value:=lQ p.1++lQ p.2
def jm(p:PI):List Value:=bD p.1.1++bD p.1.2++[.bool p.2.1,.bool p.2.2]
theorem cA(p:PC):(lQ p).length=6:=rfl
theorem dW(p:PS):(dR p).length=12:=rfl
theorem jD(p:PI):(jm p).length=12:=rfl
theorem lR(p:PS):∀u∈dR p,u.oneCell'=true:=by simp[dR,lQ,bD,VC.list,Value.oneCell']
theorem vp(p:PI):∀u∈jm p,u.oneCell'=true:=by simp[jm,bD,VC.list,Value.oneCell']
def ix(p:PC):cx:=(p.1.2,p.2)
def ai(p:PS):cx×cx:=(ix p.1,ix p.2)
def dg(p:PI):Iv:=⟨p.1.1.2,p.1.2.2,p.2.1,p.2.2⟩
def iD(p:PI):PS:=((p.1.1,!p.2.1),(p.1.2,p.2.2))
abbrev CY(p:PC):Value:=.agg #[.int .i64 p.1.1.k,.int .i64 p.1.1.n,.string p.1.1.t,.slice p.1.1.LA p.1.1.ln p.1.1.lc,.slice p.1.1.DA p.1.1.dn p.1.1.dc,.bool p.2]
abbrev vq(p:PS):Value:=.agg #[.int .i64 p.1.1.1.k,.int .i64 p.1.1.1.n,.string p.1.1.1.t,.slice p.1.1.1.LA p.1.1.1.ln p.1.1.1.lc,.slice p.1.1.1.DA p.1.1.1.dn p.1.1.1.dc,.bool p.1.2,.int .i64 p.2.1.1.k,.int .i64 p.2.1.1.n,.string p.2.1.1.t,.slice p.2.1.1.LA p.2.1.1.ln p.2.1.1.lc,.slice p.2.1.1.DA p.2.1.1.dn p.2.1.1.dc,.bool p.2.2]
abbrev jY(p:PI):Value:=.agg #[.int .i64 p.1.1.1.k,.int .i64 p.1.1.1.n,.string p.1.1.1.t,.slice p.1.1.1.LA p.1.1.1.ln p.1.1.1.lc,.slice p.1.1.1.DA p.1.1.1.dn p.1.1.1.dc,.int .i64 p.1.2.1.k,.int .i64 p.1.2.1.n,.string p.1.2.1.t,.slice p.1.2.1.LA p.1.2.1.ln p.1.2.1.lc,.slice p.1.2.1.DA p.1.2.1.dn p.1.2.1.dc,.bool p.2.1,.bool p.2.2]
abbrev uT(p:PC):Array Value:=#[.int .i64 p.1.1.k,.int .i64 p.1.1.n,.string p.1.1.t,.slice p.1.1.LA p.1.1.ln p.1.1.lc,.slice p.1.1.DA p.1.1.dn p.1.1.dc,.bool p.2]
abbrev iy(p:PS):Array Value:=#[.int .i64 p.1.1.1.k,.int .i64 p.1.1.1.n,.string p.1.1.1.t,.slice p.1.1.1.LA p.1.1.1.ln p.1.1.1.lc,.slice p.1.1.1.DA p.1.1.1.dn p.1.1.1.dc,.bool p.1.2,.int .i64 p.2.1.1.k,.int .i64 p.2.1.1.n,.string p.2.1.1.t,.slice p.2.1.1.LA p.2.1.1.ln p.2.1.1.lc,.slice p.2.1.1.DA p.2.1.1.dn p.2.1.1.dc,.bool p.2.2]
abbrev ae(p:PI):Array Value:=#[.int .i64 p.1.1.1.k,.int .i64 p.1.1.1.n,.string p.1.1.1.t,.slice p.1.1.1.LA p.1.1.1.ln p.1.1.1.lc,.slice p.1.1.1.DA p.1.1.1.dn p.1.1.1.dc,.int .i64 p.1.2.1.k,.int .i64 p.1.2.1.n,.string p.1.2.1.t,.slice p.1.2.1.LA p.1.2.1.ln p.1.2.1.lc,.slice p.1.2.1.DA p.1.2.1.dn p.1.2.1.dc,.bool p.2.1,.bool p.2.2]
def CZ(w:World)(b off:Nat)(p:PC):Prop:=aO w b off p.1.1/\w.cell? ⟨b,off+5,none⟩=some (.bool p.2)
def yM(w:World)(b off:Nat)(p:PS):Prop:=CZ w b off p.1/\CZ w b (off+6) p.2
def jE(w:World)(b off:Nat)(p:PI):Prop:=aO w b off p.1.1.1/\aO w b (off+5) p.1.2.1/\w.cell? ⟨b,off+10,none⟩=some (.bool p.2.1)/\w.cell? ⟨b,off+11,none⟩=some (.bool p.2.2)
section
variable {w w':World} {b off:Nat}
theorem uU{p:PC}(h:∀(j:Nat) (v:Value),(lQ p)[j]?=some v->w.cell? ⟨b,off+j,none⟩=some v):CZ w b off p:=
 ⟨⟨h 0 _ rfl,h 1 _ rfl,h 2 _ rfl,h 3 _ rfl,h 4 _ rfl⟩,h 5 _ rfl⟩
theorem yx{p:PS}(h:∀(j:Nat) (v:Value),(dR p)[j]?=some v->w.cell? ⟨b,off+j,none⟩=some v):yM w b off p:=
 ⟨⟨⟨h 0 _ rfl,h 1 _ rfl,h 2 _ rfl,h 3 _ rfl,h 4 _ rfl⟩,h 5 _ rfl⟩,⟨⟨h 6 _ rfl,h 7 _ rfl,h 8 _ rfl,h 9 _ rfl,h 10 _ rfl⟩,h 11 _ rfl⟩⟩
theorem Eb{p:PI}(h:∀(j:Nat) (v:Value),(jm p)[j]?=some v->w.cell? ⟨b,off+j,none⟩=some v):jE w b off p:=
 ⟨⟨h 0 _ rfl,h 1 _ rfl,h 2 _ rfl,h 3 _ rfl,h 4 _ rfl⟩,⟨h 5 _ rfl,h 6 _ rfl,h 7 _ rfl,h 8 _ rfl,h 9 _ rfl⟩,h 10 _ rfl,h 11 _ rfl⟩
theorem CZ.Mn{p:PC}(h:aG w b t (uT p)):CZ w b 0 p:=uU fun j v hj=>by rw[OX,h.cell,<-PN];exact hj
theorem yM.Mn{p:PS}(h:aG w b t (iy p)):yM w b 0 p:=yx fun j v hj=>by rw[OX,h.cell,<-PN];exact hj
theorem jE.Mn{p:PI}(h:aG w b t (ae p)):jE w b 0 p:=Eb fun j v hj=>by rw[OX,h.cell,<-PN];exact hj
theorem CZ.keep{p:PC}(h:CZ w b off p)(hb:w'.heap[b]?=w.heap[b]?):CZ w' b off p:=⟨h.1.keep hb,(PE (w:=w) (a:=⟨b,off+5,none⟩) hb).trans h.2⟩
theorem yM.keep{p:PS}(h:yM w b off p)(hb:w'.heap[b]?=w.heap[b]?):yM w' b off p:=⟨h.1.keep hb,h.2.keep hb⟩
theorem jE.keep{p:PI}(h:jE w b off p)(hb:w'.heap[b]?=w.heap[b]?):jE w' b off p:=
 ⟨h.1.keep hb,h.2.1.keep hb,(PE (w:=w) (a:=⟨b,off+10,none⟩) hb).trans h.2.2.1,(PE (w:=w) (a:=⟨b,off+11,none⟩) hb).trans h.2.2.2⟩
end
def JW(w:World)(p:PC):Prop:=RW w p.1.1 p.1.2
def vr(w:World)(p:PS):Prop:=JW w p.1/\JW w p.2
def qd(w:World)(p:PI):Prop:=RW w p.1.1.1 p.1.1.2/\RW w p.1.2.1 p.1.2.2
section
variable {w w':World}
theorem JW.step{p:PC}(h:JW w p)(hb:Bl w w'):JW w' p:=RV.step h hb
theorem vr.step{p:PS}(h:vr w p)(hb:Bl w w'):vr w' p:=⟨h.1.step hb,h.2.step hb⟩
theorem qd.step{p:PI}(h:qd w p)(hb:Bl w w'):qd w' p:=⟨h.1.step hb,h.2.step hb⟩
theorem qd.span{p:PI}(h:qd w p):vr w (iD p):=⟨h.1,h.2⟩
structure SS(w:World)(A:Option Addr)(n c:Nat)(xs:List PS):Prop where
 sr:SR 12 dR w A n c xs
 sz:n*176<=aF
 ok:∀x∈xs,vr w x
structure SI(w:World)(A:Option Addr)(n c:Nat)(xs:List PI):Prop where
 sr:SR 12 jm w A n c xs
 sz:n*168<=aF
 ok:∀x∈xs,qd w x
variable {A:Option Addr} {n c:Nat}
theorem SI.step{xs:List PI}(h:SI w A n c xs)(hb:Bl w w'):SI w' A n c xs:=⟨h.sr.step hb,h.sz,fun x hx=>(h.ok x hx).step hb⟩
theorem SS.at{xs:List PS}(h:SS w A n c xs){p:PS}(hi:xs[i]?=some p):∃b off,A=some ⟨b,off,none⟩/\b<w.heap.size/\yM w b (off+i*12) p/\vr w p:=by
 have hn:0<n:=by have:=(OI.1 hi).1;have:=h.sr.ln;omega
 obtain⟨b,off,e,hb,hel⟩:=h.sr.el hn;exact⟨b,off,e,hb,yx fun j v hj=>hel i p hi j v hj,h.ok p (OJ hi)⟩
theorem SI.at{xs:List PI}(h:SI w A n c xs){p:PI}(hi:xs[i]?=some p):∃b off,A=some ⟨b,off,none⟩/\b<w.heap.size/\jE w b (off+i*12) p/\qd w p:=by
 have hn:0<n:=by have:=(OI.1 hi).1;have:=h.sr.ln;omega
 obtain⟨b,off,e,hb,hel⟩:=h.sr.el hn;exact⟨b,off,e,hb,Eb fun j v hj=>hel i p hi j v hj,h.ok p (OJ hi)⟩
theorem SS.Mq{xs:List PS}(h:w.ownsRow base t 12 v n (aN dR xs))(hl:xs.length=n)(hz:n*176<=aF)(hr:∀p∈xs,vr w p):∃A c,v=.slice A n c/\SS w A n c xs:=by
 obtain⟨A,c,rfl,hs⟩:=SR.Mq dW h hl;exact⟨A,c,rfl,hs,hz,hr⟩
theorem SI.Mq{xs:List PI}(h:w.ownsRow base t 12 v n (aN jm xs))(hl:xs.length=n)(hz:n*168<=aF)(hr:∀p∈xs,qd w p):∃A c,v=.slice A n c/\SI w A n c xs:=by
 obtain⟨A,c,rfl,hs⟩:=SR.Mq jD h hl;exact⟨A,c,rfl,hs,hz,hr⟩
end
theorem mT:(Tryz.prog.info? 167).map (fun i=>(i.zero,i.size,i.bytes))=some (some (vq (((VC.zero,aC.zero),false),((VC.zero,aC.zero),false))),12,176):=kR
theorem mn:(Tryz.prog.info? 85).map (fun i=>(i.zero,i.size,i.bytes))=some (some (jY (((VC.zero,aC.zero),(VC.zero,aC.zero)),(false,false))),12,168):=kR
theorem jF(p q:PC)(w:World)(hp:JW w p)(hq:JW w q):
 Calls prog 178 #[CY p,CY q] w (Rt w (.int .i64 (aq (ix p) (ix q)))):=by
 have HP:=qD hp;have HQ:=qD hq;have Z2:=qD (((OG w.heap.size w).alloc (qL) (Obj.cells (uT p) 165)).alloc sM (Obj.cells (uT q) 165));have B0:Hid (aG ((w.alloc (.cells (uT p) 165)).alloc (.cells (uT q) 165)) w.heap.size 165 (uT p)):=(aG.Mm rfl).alloc _;have B1:Hid (aG ((w.alloc (.cells (uT p) 165)).alloc (.cells (uT q) 165)) (w.heap.size+1) 165 (uT q)):=aG.Mm sM;clear hp hq;go_enter func178,ntmps178;go_wp2_with fail;refine(Ar p.1.2 q.1.2 p.1.1 q.1.1 _ (HP.out.step Z2.out) (HQ.out.step Z2.out)).mono ?_;rintro e w1 ⟨rfl,hb1⟩;have Z1:=qD (Z2.out.Ml hb1);obtain⟨_,p5⟩:=CZ.Mn (B0.out.step hb1);obtain⟨_,q5⟩:=CZ.Mn (B1.out.step hb1);simp only[OX] at p5 q5;clear hb1;by_cases h0:aZ p.1.2 q.1.2=0
 ·have HC:Hid (aq (ix p) (ix q)=yP p.2 q.2):=fj (a:=ix p) (b:=ix q) h0;rw[h0];clear h0;cases h1:p.2<;>cases h2:q.2
  all_goals
   rw[h1] at p5;rw[h2] at q5;rw[h1,h2] at HC;clear h1 h2;go_wp2;go_ret;exact⟨by rw[HC.out];rfl,Z1.out⟩
 ·have HC:Hid (aq (ix p) (ix q)=aZ p.1.2 q.1.2):=kX (a:=ix p) (b:=ix q) h0;have h1:(aZ p.1.2 q.1.2 != 0)=true:=by simpa using h0
  clear h0;go_wp2;go_ret;exact⟨by rw[HC.out];rfl,Z1.out⟩
theorem Ec(p q:PS)(w:World)(hp:vr w p)(hq:vr w q):
 Calls prog 190 #[vq p,vq q] w (Rt w (.int .i64 (aq (ai p).1 (ai q).1))):=by
 have HP:=qD hp;have HQ:=qD hq;have Z2:=qD (((OG w.heap.size w).alloc (qL) (Obj.cells (iy p) 167)).alloc sM (Obj.cells (iy q) 167));clear hp hq;go_enter func190,ntmps190;go_wp2_with fail;refine(jF p.1 q.1 _ (HP.out.step Z2.out).1 (HQ.out.step Z2.out).1).mono ?_;rintro e w1 ⟨rfl,hb1⟩;go_wp2;go_ret;exact⟨rfl,Z2.out.Ml hb1⟩
theorem wrap_i64'(h1:-9223372036854775808<=a)(h2:a<=9223372036854775807):IntKind.i64.wrap a=a:=SE _ ⟨h1,h2⟩
def gI(e:PS×Nat):List Value:=dR e.1
theorem gS(e:PS×Nat):(gI e).length=12:=dW e.1
def bW(w:World)(g:Nat)(L:List (PS×Nat)):Prop:=∃R:List Value,aG w g 167 (aN gI L++R).toArray
theorem pL{α:Type}:∀(vs l R:List α) (k:Nat),k+vs.length<=l.length->dO (l++R) k vs=dO l k vs++R:=by
 intro vs
 induction vs with
 | nil=>intro l R k _;rfl
 | cons v vs ih=>
  intro l R k h;simp only[OZ] at h;rw[dO,dO,List.set_append_left _ _ oM,ih _ _ _ (by rw[Qm];omega)]
abbrev mo(p:PS×Nat):Value:=.agg #[.int .i64 p.1.1.1.1.k,.int .i64 p.1.1.1.1.n,.string p.1.1.1.1.t,.slice p.1.1.1.1.LA p.1.1.1.1.ln p.1.1.1.1.lc,.slice p.1.1.1.1.DA p.1.1.1.1.dn p.1.1.1.1.dc,.bool p.1.1.2,.int .i64 p.1.2.1.1.k,.int .i64 p.1.2.1.1.n,.string p.1.2.1.1.t,.slice p.1.2.1.1.LA p.1.2.1.1.ln p.1.2.1.1.lc,.slice p.1.2.1.1.DA p.1.2.1.1.dn p.1.2.1.1.dc,.bool p.1.2.2]
section
variable {w w':World} {g:Nat} {L:List (PS×Nat)}
theorem bW.cell(h:bW w g L){p:PS×Nat}(hj:L[j]?=some p)(i:Nat)(v:Value)(hi:(gI p)[i]?=some v):w.cell? ⟨g,j*12+i,none⟩=some v:=by
 obtain⟨R,h⟩:=h;have hf:=gX gS hj hi;rw[aG.cell h (j*12+i),Rh,PX (OI.1 hf).1];exact hf
theorem bW.step(h:bW w g L)(hb:Bl w w'):bW w' g L:=by obtain⟨R,h⟩:=h;exact⟨R,aG.step h hb⟩
theorem bW.drew(h:bW w g L):bW w.drew g L:=by obtain⟨R,h⟩:=h;exact⟨R,aG.drew h⟩
theorem bW.frozen(h:bW w g L)(i:Nat):w.frozen? ⟨g,i,none⟩=false:=by obtain⟨R,h⟩:=h;exact aG.frozen h i
theorem bW.lt(h:bW w g L):g<w.heap.size:=by obtain⟨R,h⟩:=h;exact aG.lt h
theorem bW.put(h:bW w g L)(hj:j<L.length)(p:PS×Nat):bW ((((((((((((w.setCell ⟨g,j*12,none⟩ (.int .i64 p.1.1.1.1.k)).setCell ⟨g,j*12+1,none⟩ (.int .i64 p.1.1.1.1.n)).setCell ⟨g,j*12+2,none⟩ (.string p.1.1.1.1.t)).setCell ⟨g,j*12+3,none⟩ (.slice p.1.1.1.1.LA p.1.1.1.1.ln p.1.1.1.1.lc)).setCell ⟨g,j*12+4,none⟩ (.slice p.1.1.1.1.DA p.1.1.1.1.dn p.1.1.1.1.dc)).setCell ⟨g,j*12+5,none⟩ (.bool p.1.1.2)).setCell ⟨g,j*12+6,none⟩ (.int .i64 p.1.2.1.1.k)).setCell ⟨g,j*12+7,none⟩ (.int .i64 p.1.2.1.1.n)).setCell ⟨g,j*12+8,none⟩ (.string p.1.2.1.1.t)).setCell ⟨g,j*12+9,none⟩ (.slice p.1.2.1.1.LA p.1.2.1.1.ln p.1.2.1.1.lc)).setCell ⟨g,j*12+10,none⟩ (.slice p.1.2.1.1.DA p.1.2.1.1.dn p.1.2.1.1.dc)).setCell ⟨g,j*12+11,none⟩ (.bool p.1.2.2)) g (L.set j p):=by
 obtain⟨R,h⟩:=h;have hl:=bv gS L
 have e:aN gI (L.set j p)++R=dO (aN gI L++R) (j*12) (gI p):=by
  rw[vo gS L j p hj,pL _ _ _ _ (by rw[gS];omega)]
 refine⟨R,?_⟩;rw[e];clear e hl;generalize aN gI L++R=X at h ⊢;have:=aG.Mo (aG.Mo (aG.Mo (aG.Mo (aG.Mo (aG.Mo (aG.Mo (aG.Mo (aG.Mo (aG.Mo (aG.Mo (aG.Mo h (j*12) (.int .i64 p.1.1.1.1.k)) (j*12+1) (.int .i64 p.1.1.1.1.n)) (j*12+2) (.string p.1.1.1.1.t)) (j*12+3) (.slice p.1.1.1.1.LA p.1.1.1.1.ln p.1.1.1.1.lc)) (j*12+4) (.slice p.1.1.1.1.DA p.1.1.1.1.dn p.1.1.1.1.dc)) (j*12+5) (.bool p.1.1.2)) (j*12+6) (.int .i64 p.1.2.1.1.k)) (j*12+7) (.int .i64 p.1.2.1.1.n)) (j*12+8) (.string p.1.2.1.1.t)) (j*12+9) (.slice p.1.2.1.1.LA p.1.2.1.1.ln p.1.2.1.1.lc)) (j*12+10) (.slice p.1.2.1.1.DA p.1.2.1.1.dn p.1.2.1.1.dc)) (j*12+11) (.bool p.1.2.2);rw[show(dO X (j*12) (gI p)).toArray=((((((((((((X.toArray.setIfInBounds (j*12) (.int .i64 p.1.1.1.1.k)).setIfInBounds (j*12+1) (.int .i64 p.1.1.1.1.n)).setIfInBounds (j*12+2) (.string p.1.1.1.1.t)).setIfInBounds (j*12+3) (.slice p.1.1.1.1.LA p.1.1.1.1.ln p.1.1.1.1.lc)).setIfInBounds (j*12+4) (.slice p.1.1.1.1.DA p.1.1.1.1.dn p.1.1.1.1.dc)).setIfInBounds (j*12+5) (.bool p.1.1.2)).setIfInBounds (j*12+6) (.int .i64 p.1.2.1.1.k)).setIfInBounds (j*12+7) (.int .i64 p.1.2.1.1.n)).setIfInBounds (j*12+8) (.string p.1.2.1.1.t)).setIfInBounds (j*12+9) (.slice p.1.2.1.1.LA p.1.2.1.1.ln p.1.2.1.1.lc)).setIfInBounds (j*12+10) (.slice p.1.2.1.1.DA p.1.2.1.1.dn p.1.2.1.1.dc)).setIfInBounds (j*12+11) (.bool p.1.2.2)) from by simp[dO,gI,dR,lQ,bD,VC.list]];exact this
end
theorem mU{α:Type}(A S3 S2 E:List α)(x y:α):((A++((S3++[y])++x::S2)++E).set (A.length+(S3.length+1)) y).set (A.length+(S3.length+1)-1) x=A++(S3++x::y::S2)++E:=by
 rw[show A.length+(S3.length+1)-1=A.length+S3.length by omega];simp
def jG(g:Nat)(w:World)(U:List (PS×Nat)):Prop:=∀(x y:PS×Nat),x∈U->y∈U->∀wr,fD g w wr->
 Calls prog 190 #[mo x,mo y] wr (Rt wr (.int .i64 (aq (ai x.1).1 (ai y.1).1)))
end
structure dQ(g:Nat)(w:World)(L:List (PS×Nat))(wr:World):Prop where
 row:bW wr g L
 but:fD g w wr
section
variable {k b n g c ln dn q lc size dc:Nat} {w w' wr w2:World} {t:TypeId} {a x y:Int} {A LA DA:Option Addr} {ha:Bool}
theorem dQ.step{L:List (PS×Nat)}(h:dQ g w L wr)(hb:Bl wr w'):dQ g w L w':=⟨h.row.step hb,h.but.step hb⟩
theorem dQ.swap{L:List (PS×Nat)}(h:dQ g w L w2){jj:Nat}(hl:jj<L.length)(x y:PS×Nat):dQ g w ((L.set jj y).set (jj-1) x) ((((((((((((((((((((((((w2.setCell ⟨g,jj*12,none⟩ (.int .i64 y.1.1.1.1.k)).setCell ⟨g,jj*12+1,none⟩ (.int .i64 y.1.1.1.1.n)).setCell ⟨g,jj*12+2,none⟩ (.string y.1.1.1.1.t)).setCell ⟨g,jj*12+3,none⟩ (.slice y.1.1.1.1.LA y.1.1.1.1.ln y.1.1.1.1.lc)).setCell ⟨g,jj*12+4,none⟩ (.slice y.1.1.1.1.DA y.1.1.1.1.dn y.1.1.1.1.dc)).setCell ⟨g,jj*12+5,none⟩ (.bool y.1.1.2)).setCell ⟨g,jj*12+6,none⟩ (.int .i64 y.1.2.1.1.k)).setCell ⟨g,jj*12+7,none⟩ (.int .i64 y.1.2.1.1.n)).setCell ⟨g,jj*12+8,none⟩ (.string y.1.2.1.1.t)).setCell ⟨g,jj*12+9,none⟩ (.slice y.1.2.1.1.LA y.1.2.1.1.ln y.1.2.1.1.lc)).setCell ⟨g,jj*12+10,none⟩ (.slice y.1.2.1.1.DA y.1.2.1.1.dn y.1.2.1.1.dc)).setCell ⟨g,jj*12+11,none⟩ (.bool y.1.2.2)).setCell ⟨g,(jj-1)*12,none⟩ (.int .i64 x.1.1.1.1.k)).setCell ⟨g,(jj-1)*12+1,none⟩ (.int .i64 x.1.1.1.1.n)).setCell ⟨g,(jj-1)*12+2,none⟩ (.string x.1.1.1.1.t)).setCell ⟨g,(jj-1)*12+3,none⟩ (.slice x.1.1.1.1.LA x.1.1.1.1.ln x.1.1.1.1.lc)).setCell ⟨g,(jj-1)*12+4,none⟩ (.slice x.1.1.1.1.DA x.1.1.1.1.dn x.1.1.1.1.dc)).setCell ⟨g,(jj-1)*12+5,none⟩ (.bool x.1.1.2)).setCell ⟨g,(jj-1)*12+6,none⟩ (.int .i64 x.1.2.1.1.k)).setCell ⟨g,(jj-1)*12+7,none⟩ (.int .i64 x.1.2.1.1.n)).setCell ⟨g,(jj-1)*12+8,none⟩ (.string x.1.2.1.1.t)).setCell ⟨g,(jj-1)*12+9,none⟩ (.slice x.1.2.1.1.LA x.1.2.1.1.ln x.1.2.1.1.lc)).setCell ⟨g,(jj-1)*12+10,none⟩ (.slice x.1.2.1.1.DA x.1.2.1.1.dn x.1.2.1.1.dc)).setCell ⟨g,(jj-1)*12+11,none⟩ (.bool x.1.2.2)).drew:=
 ⟨bW.drew ((h.row.put hl y).put (j:=jj-1) (by rw[Qm];omega) x),fD.step ((((((((((((((((((((((((h.but.set (p:=⟨g,jj*12,none⟩) rfl (.int .i64 y.1.1.1.1.k)).set (p:=⟨g,jj*12+1,none⟩) rfl (.int .i64 y.1.1.1.1.n)).set (p:=⟨g,jj*12+2,none⟩) rfl (.string y.1.1.1.1.t)).set (p:=⟨g,jj*12+3,none⟩) rfl (.slice y.1.1.1.1.LA y.1.1.1.1.ln y.1.1.1.1.lc)).set (p:=⟨g,jj*12+4,none⟩) rfl (.slice y.1.1.1.1.DA y.1.1.1.1.dn y.1.1.1.1.dc)).set (p:=⟨g,jj*12+5,none⟩) rfl (.bool y.1.1.2)).set (p:=⟨g,jj*12+6,none⟩) rfl (.int .i64 y.1.2.1.1.k)).set (p:=⟨g,jj*12+7,none⟩) rfl (.int .i64 y.1.2.1.1.n)).set (p:=⟨g,jj*12+8,none⟩) rfl (.string y.1.2.1.1.t)).set (p:=⟨g,jj*12+9,none⟩) rfl (.slice y.1.2.1.1.LA y.1.2.1.1.ln y.1.2.1.1.lc)).set (p:=⟨g,jj*12+10,none⟩) rfl (.slice y.1.2.1.1.DA y.1.2.1.1.dn y.1.2.1.1.dc)).set (p:=⟨g,jj*12+11,none⟩) rfl (.bool y.1.2.2)).set (p:=⟨g,(jj-1)*12,none⟩) rfl (.int .i64 x.1.1.1.1.k)).set (p:=⟨g,(jj-1)*12+1,none⟩) rfl (.int .i64 x.1.1.1.1.n)).set (p:=⟨g,(jj-1)*12+2,none⟩) rfl (.string x.1.1.1.1.t)).set (p:=⟨g,(jj-1)*12+3,none⟩) rfl (.slice x.1.1.1.1.LA x.1.1.1.1.ln x.1.1.1.1.lc)).set (p:=⟨g,(jj-1)*12+4,none⟩) rfl (.slice x.1.1.1.1.DA x.1.1.1.1.dn x.1.1.1.1.dc)).set (p:=⟨g,(jj-1)*12+5,none⟩) rfl (.bool x.1.1.2)).set (p:=⟨g,(jj-1)*12+6,none⟩) rfl (.int .i64 x.1.2.1.1.k)).set (p:=⟨g,(jj-1)*12+7,none⟩) rfl (.int .i64 x.1.2.1.1.n)).set (p:=⟨g,(jj-1)*12+8,none⟩) rfl (.string x.1.2.1.1.t)).set (p:=⟨g,(jj-1)*12+9,none⟩) rfl (.slice x.1.2.1.1.LA x.1.2.1.1.ln x.1.2.1.1.lc)).set (p:=⟨g,(jj-1)*12+10,none⟩) rfl (.slice x.1.2.1.1.DA x.1.2.1.1.dn x.1.2.1.1.dc)).set (p:=⟨g,(jj-1)*12+11,none⟩) rfl (.bool x.1.2.2)) ((OG _ _).drew)⟩
def qe(g:Nat)(w:World)(A Seg D:List (PS×Nat))(e:Ending)(w':World):Prop:=
 e=.returned (.tuple #[])/\∃S,aS (fun p q:PS=>aq (ai p).1 (ai q).1) Seg S/\dQ g w (A++S++D) w'
theorem pM(H:cM (fun p q:PS=>aq (ai p).1 (ai q).1))(A Seg D:List (PS×Nat))(g n c a b:Nat)(w:World)(hr:bW w g (A++Seg++D))(hn:n=(A++Seg++D).length)(ha:a=A.length)(hb:b=A.length+Seg.length)(hz:n*176<=aF)(ht:gH Seg)(hc:jG g w Seg):
  Calls prog 292 #[.slice (some ⟨g,0,none⟩) n c,.int .i64 a,.int .i64 b,.func (.func 190) #[] #[]] w (qe g w A Seg D):=by
  unfold aF at hz;have HN:=qD hn;have HA:=qD ha;have HBq:=qD hb;have hab:a<=b:=oM
  have hbn:b<=n:=by rw[hn];simp;omega
  have HC:=qD hc;have HT:=qD ht;have HO:=qD H;have I0:Hid (dQ g w (A++Seg++D) w):=qD ⟨hr,fD.refl⟩;clear hr hn ha hb ht hc H;cases hs:Seg with
  | nil=>
   have hab':b<=a:=by have:=HA.out;have:=HBq.out;rw[hs] at this;simp at this;omega
   have HS:=qD hs;clear hs;go_enter func292,ntmps292;go_wp2_with fail
   go_loopw [8] (fun v8 wr=>v8=.int .i64 (a+1)/\wr=w) (fun _ _=>0)
   ·exact⟨by go_num,rfl⟩
   case round=>
    obtain⟨rfl,rfl⟩:=hrel;go_wp2_with fail
    go_end0
    exact⟨rfl,[],aS.nil,by have:=I0.out;rw[HS.out] at this;exact this⟩
  | cons x0 rest=>
   have HS:=qD hs;clear hs;rw[<-HS.out];go_enter func292,ntmps292;go_wp2_with fail
   go_loopw [8] (fun v8 wr=>∃(i:Nat) (P Q S:List (PS×Nat)),v8=.int .i64 i/\i=a+P.length/\1<=P.length/\i<=b/\Seg=P++Q/\aS (fun p q:PS=>aq (ai p).1 (ai q).1) P S/\dQ g w (A++S++(Q++D)) wr) (fun v8 _=>b-(intOf v8).toNat)
   case atStart=>
    refine⟨a+1,[x0],rest,[x0],by go_num,rfl,qL,?_,HS.out,aS.one x0,?_⟩
    ·have:=HBq.out;have:=HA.out;rw[HS.out] at*;simp at*;omega
    ·have:=I0.out;rw[HS.out] at this;simpa using this
   case round=>
    obtain⟨i,P,Q,S,rfl,hi,hP,hib,hPQ,hS,I⟩:=hrel;have HI:=qD hi;have HPQ:=qD hPQ;have HSo:=qD hS;have J:=qD I;clear hi hPQ hS;by_cases hlt:i<b
    ·obtain⟨x,Q',hQ⟩:∃x Q',Q=x::Q':=by
      cases Q with
      | nil=>
       have h1:=HBq.out;have h2:=HI.out;have h3:=HA.out;rw[HPQ.out] at h1;simp at h1;omega
      | cons x Q'=>exact⟨x,Q',rfl⟩
     have HQ:=qD hQ;have hSl:S.length=P.length:=HSo.out.perm.length_eq;have HSl:=qD hSl;clear I hSl hQ;go_wp2_with fail
     go_loopw [9] (fun v9 wr=>∃(jj:Nat) (S1 S2:List (PS×Nat)),v9=.int .i64 jj/\jj=a+S1.length/\jj<=i/\S=S1++S2/\(∀y∈S2,aq (ai x.1).1 (ai y.1).1<0)/\dQ g w (A++(S1++x::S2)++(Q'++D)) wr) (fun v9 _=>(intOf v9).toNat)
     case atStart=>
      refine⟨i,S,[],rfl,by rw[HI.out,HSl.out],qL,by simp,by simp,?_⟩;have:=J.out;rw[HQ.out] at this;simpa using this
     case round=>
      clear J;obtain⟨jj,S1,S2,rfl,hj,hji,hSS,hall,I⟩:=hrel;have HJ:=qD hj;have HSS:=qD hSS;have HAll:=qD hall;have J:=qD I;clear hj hSS hall;by_cases hgt:a<jj
      ·obtain⟨S3,y,hS3⟩:∃S3 y,S1=S3++[y]:=by
        rcases QT S1 with h|⟨S3,y,h⟩
        ·have:=HJ.out;rw[h] at this;simp at this;omega
        ·exact⟨S3,y,by rw[h,QG]⟩
       have hA:=HA.out;have hj1:jj=A.length+(S3.length+1):=by rw[HJ.out,hS3];simp;omega
       have hx:(A++(S1++x::S2)++(Q'++D))[jj]?=some x:=by
        rw[hS3,hj1];simp
       have hy:(A++(S1++x::S2)++(Q'++D))[jj-1]?=some y:=by
        rw[hS3,hj1];simp
       have hxm:x∈Seg:=by rw[HPQ.out,HQ.out];simp
       have hym:y∈Seg:=by
        rw[HPQ.out];exact Sf _ (HSo.out.perm.subset (by rw[HSS.out,hS3];simp))
       have p0:wr.cell? ⟨g,jj*12,none⟩=some (.int .i64 x.1.1.1.1.k):=I.row.cell hx 0 _ rfl;have p1:wr.cell? ⟨g,jj*12+1,none⟩=some (.int .i64 x.1.1.1.1.n):=I.row.cell hx 1 _ rfl;have p2:wr.cell? ⟨g,jj*12+2,none⟩=some (.string x.1.1.1.1.t):=I.row.cell hx 2 _ rfl;have p3:wr.cell? ⟨g,jj*12+3,none⟩=some (.slice x.1.1.1.1.LA x.1.1.1.1.ln x.1.1.1.1.lc):=I.row.cell hx 3 _ rfl;have p4:wr.cell? ⟨g,jj*12+4,none⟩=some (.slice x.1.1.1.1.DA x.1.1.1.1.dn x.1.1.1.1.dc):=I.row.cell hx 4 _ rfl;have p5:wr.cell? ⟨g,jj*12+5,none⟩=some (.bool x.1.1.2):=I.row.cell hx 5 _ rfl;have p6:wr.cell? ⟨g,jj*12+6,none⟩=some (.int .i64 x.1.2.1.1.k):=I.row.cell hx 6 _ rfl;have p7:wr.cell? ⟨g,jj*12+7,none⟩=some (.int .i64 x.1.2.1.1.n):=I.row.cell hx 7 _ rfl;have p8:wr.cell? ⟨g,jj*12+8,none⟩=some (.string x.1.2.1.1.t):=I.row.cell hx 8 _ rfl;have p9:wr.cell? ⟨g,jj*12+9,none⟩=some (.slice x.1.2.1.1.LA x.1.2.1.1.ln x.1.2.1.1.lc):=I.row.cell hx 9 _ rfl;have p10:wr.cell? ⟨g,jj*12+10,none⟩=some (.slice x.1.2.1.1.DA x.1.2.1.1.dn x.1.2.1.1.dc):=I.row.cell hx 10 _ rfl;have p11:wr.cell? ⟨g,jj*12+11,none⟩=some (.bool x.1.2.2):=I.row.cell hx 11 _ rfl;have r0:wr.cell? ⟨g,(jj-1)*12,none⟩=some (.int .i64 y.1.1.1.1.k):=I.row.cell hy 0 _ rfl;have r1:wr.cell? ⟨g,(jj-1)*12+1,none⟩=some (.int .i64 y.1.1.1.1.n):=I.row.cell hy 1 _ rfl;have r2:wr.cell? ⟨g,(jj-1)*12+2,none⟩=some (.string y.1.1.1.1.t):=I.row.cell hy 2 _ rfl;have r3:wr.cell? ⟨g,(jj-1)*12+3,none⟩=some (.slice y.1.1.1.1.LA y.1.1.1.1.ln y.1.1.1.1.lc):=I.row.cell hy 3 _ rfl
       have r4:wr.cell? ⟨g,(jj-1)*12+4,none⟩=some (.slice y.1.1.1.1.DA y.1.1.1.1.dn y.1.1.1.1.dc):=I.row.cell hy 4 _ rfl;have r5:wr.cell? ⟨g,(jj-1)*12+5,none⟩=some (.bool y.1.1.2):=I.row.cell hy 5 _ rfl;have r6:wr.cell? ⟨g,(jj-1)*12+6,none⟩=some (.int .i64 y.1.2.1.1.k):=I.row.cell hy 6 _ rfl;have r7:wr.cell? ⟨g,(jj-1)*12+7,none⟩=some (.int .i64 y.1.2.1.1.n):=I.row.cell hy 7 _ rfl;have r8:wr.cell? ⟨g,(jj-1)*12+8,none⟩=some (.string y.1.2.1.1.t):=I.row.cell hy 8 _ rfl;have r9:wr.cell? ⟨g,(jj-1)*12+9,none⟩=some (.slice y.1.2.1.1.LA y.1.2.1.1.ln y.1.2.1.1.lc):=I.row.cell hy 9 _ rfl;have r10:wr.cell? ⟨g,(jj-1)*12+10,none⟩=some (.slice y.1.2.1.1.DA y.1.2.1.1.dn y.1.2.1.1.dc):=I.row.cell hy 10 _ rfl;have r11:wr.cell? ⟨g,(jj-1)*12+11,none⟩=some (.bool y.1.2.2):=I.row.cell hy 11 _ rfl;have P0:=aX p0;have P1:=aX p1;have P2:=aX p2;have P3:=aX p3;have P4:=aX p4;have P5:=aX p5;have P6:=aX p6;have P7:=aX p7;have P8:=aX p8;have P9:=aX p9;have P10:=aX p10;have P11:=aX p11;have R0:=aX r0;have R1:=aX r1;have R2:=aX r2;have R3:=aX r3;have R4:=aX r4;have R5:=aX r5;have R6:=aX r6;have R7:=aX r7;have R8:=aX r8;have R9:=aX r9;have R10:=aX r10;have R11:=aX r11;have hjn:jj<n:=oM
       have i0:(0:Int)<=(jj:Int):=oM
       have i1:(jj:Int)<(n:Int):=oM
       have i2:(0:Int)<=(jj:Int)-1:=oM
       have i3:(jj:Int)-1<(n:Int):=oM
       have W1:IntKind.i64.wrap ((jj:Int)-1)=(jj:Int)-1:=wrap_i64' oM oM;have W2:((jj:Int)-1).toNat=jj-1:=oM
       have K1:Hid (∀k:BW wr,Calls prog 190 #[mo x,mo y] k.val fun e w''=>e=.returned (.int .i64 (aq (ai x.1).1 (ai y.1).1))/\∃k:BW wr,w''=k.val):=fun k=>
        Calls.bw (HC.out x y hxm hym k.val (I.but.step k.below))
       have HX:=qD hx;have HY:=qD hy;have HS3:=qD hS3;have HJ1:=qD hj1;clear p0 r0 p1 r1 p2 r2 p3 r3 p4 r4 p5 r5 p6 r6 p7 r7 p8 r8 p9 r9 p10 r10 p11 r11 hx hy hxm hym I hS3 hj1 hA;go_upto_region 4 with fail
       refine aL kR kR ?_
       repeat(go_big_quiet_step (with_reducible exact K1.out _))
       refine Oc ?_;rintro _ ⟨kw,rfl⟩;have J2:=qD (J.out.step kw.below);clear P0 R0 P1 R1 P2 R2 P3 R3 P4 R4 P5 R5 P6 R6 P7 R7 P8 R8 P9 R9 P10 R10 P11 R11 K1 W1 W2 i0 i1 i2 i3;generalize kw.val=w2 at*;by_cases hc:aq (ai x.1).1 (ai y.1).1<0
       ·have p0:w2.cell? ⟨g,jj*12,none⟩=some (.int .i64 x.1.1.1.1.k):=J2.out.row.cell HX.out 0 _ rfl;have p1:w2.cell? ⟨g,jj*12+1,none⟩=some (.int .i64 x.1.1.1.1.n):=J2.out.row.cell HX.out 1 _ rfl;have p2:w2.cell? ⟨g,jj*12+2,none⟩=some (.string x.1.1.1.1.t):=J2.out.row.cell HX.out 2 _ rfl;have p3:w2.cell? ⟨g,jj*12+3,none⟩=some (.slice x.1.1.1.1.LA x.1.1.1.1.ln x.1.1.1.1.lc):=J2.out.row.cell HX.out 3 _ rfl;have p4:w2.cell? ⟨g,jj*12+4,none⟩=some (.slice x.1.1.1.1.DA x.1.1.1.1.dn x.1.1.1.1.dc):=J2.out.row.cell HX.out 4 _ rfl;have p5:w2.cell? ⟨g,jj*12+5,none⟩=some (.bool x.1.1.2):=J2.out.row.cell HX.out 5 _ rfl;have p6:w2.cell? ⟨g,jj*12+6,none⟩=some (.int .i64 x.1.2.1.1.k):=J2.out.row.cell HX.out 6 _ rfl;have p7:w2.cell? ⟨g,jj*12+7,none⟩=some (.int .i64 x.1.2.1.1.n):=J2.out.row.cell HX.out 7 _ rfl;have p8:w2.cell? ⟨g,jj*12+8,none⟩=some (.string x.1.2.1.1.t):=J2.out.row.cell HX.out 8 _ rfl;have p9:w2.cell? ⟨g,jj*12+9,none⟩=some (.slice x.1.2.1.1.LA x.1.2.1.1.ln x.1.2.1.1.lc):=J2.out.row.cell HX.out 9 _ rfl;have p10:w2.cell? ⟨g,jj*12+10,none⟩=some (.slice x.1.2.1.1.DA x.1.2.1.1.dn x.1.2.1.1.dc):=J2.out.row.cell HX.out 10 _ rfl;have p11:w2.cell? ⟨g,jj*12+11,none⟩=some (.bool x.1.2.2):=J2.out.row.cell HX.out 11 _ rfl;have r0:w2.cell? ⟨g,(jj-1)*12,none⟩=some (.int .i64 y.1.1.1.1.k):=J2.out.row.cell HY.out 0 _ rfl;have r1:w2.cell? ⟨g,(jj-1)*12+1,none⟩=some (.int .i64 y.1.1.1.1.n):=J2.out.row.cell HY.out 1 _ rfl
        have r2:w2.cell? ⟨g,(jj-1)*12+2,none⟩=some (.string y.1.1.1.1.t):=J2.out.row.cell HY.out 2 _ rfl;have r3:w2.cell? ⟨g,(jj-1)*12+3,none⟩=some (.slice y.1.1.1.1.LA y.1.1.1.1.ln y.1.1.1.1.lc):=J2.out.row.cell HY.out 3 _ rfl;have r4:w2.cell? ⟨g,(jj-1)*12+4,none⟩=some (.slice y.1.1.1.1.DA y.1.1.1.1.dn y.1.1.1.1.dc):=J2.out.row.cell HY.out 4 _ rfl;have r5:w2.cell? ⟨g,(jj-1)*12+5,none⟩=some (.bool y.1.1.2):=J2.out.row.cell HY.out 5 _ rfl;have r6:w2.cell? ⟨g,(jj-1)*12+6,none⟩=some (.int .i64 y.1.2.1.1.k):=J2.out.row.cell HY.out 6 _ rfl;have r7:w2.cell? ⟨g,(jj-1)*12+7,none⟩=some (.int .i64 y.1.2.1.1.n):=J2.out.row.cell HY.out 7 _ rfl;have r8:w2.cell? ⟨g,(jj-1)*12+8,none⟩=some (.string y.1.2.1.1.t):=J2.out.row.cell HY.out 8 _ rfl;have r9:w2.cell? ⟨g,(jj-1)*12+9,none⟩=some (.slice y.1.2.1.1.LA y.1.2.1.1.ln y.1.2.1.1.lc):=J2.out.row.cell HY.out 9 _ rfl;have r10:w2.cell? ⟨g,(jj-1)*12+10,none⟩=some (.slice y.1.2.1.1.DA y.1.2.1.1.dn y.1.2.1.1.dc):=J2.out.row.cell HY.out 10 _ rfl;have r11:w2.cell? ⟨g,(jj-1)*12+11,none⟩=some (.bool y.1.2.2):=J2.out.row.cell HY.out 11 _ rfl;have z:=bW.frozen J2.out.row;go_upto_region 6 with fail
        go_region
        all_goals
         clear p0 r0 p1 r1 p2 r2 p3 r3 p4 r4 p5 r5 p6 r6 p7 r7 p8 r8 p9 r9 p10 r10 p11 r11 z;go_wp2_with fail;refine⟨⟨jj-1,S3,y::S2,by rw[show((jj-1:Nat):Int)=(jj:Int)-1 by omega],by rw[HJ1.out,HA.out];omega,by omega,by rw[HSS.out,HS3.out];simp,?_,?_⟩,by simp[intOf];omega⟩
         ·intro q hq;rcases PB.1 hq with rfl|hq
          ·exact hc
          ·exact HAll.out q hq
         ·have hl:jj<(A++(S1++x::S2)++(Q'++D)).length:=(OI.1 HX.out).1;have r1:=J2.out.swap hl x y;rw[HS3.out,HJ1.out,mU,<-HJ1.out] at r1;exact r1
       ·have HD:Hid (aS (fun p q:PS=>aq (ai p).1 (ai q).1) (P++[x]) (S1++x::S2)):=by
         refine aS.insert HO.out (by rw[<-HSS.out];exact HSo.out) (fun y hy=>?_) HAll.out (fun q hq=>?_)
         ·have h:=HT.out;rw[HPQ.out,HQ.out] at h;exact(Oi.1 h).2.2 y hy x sM
         ·rw[HS3.out] at hq;simp at hq;subst hq;exact hc
        go_wp2_with fail;go_roundw
        ·exact⟨i+1,P++[x],Q',S1++x::S2,by go_num,by rw[HI.out];simp;omega,by simp,by omega,by rw[HPQ.out,HQ.out];simp,HD.out,J2.out⟩
        ·exact iO
      ·have HN1:Hid (S1=[]):=OL (by have:=HJ.out;omega)
       have HD:Hid (aS (fun p q:PS=>aq (ai p).1 (ai q).1) (P++[x]) (S1++x::S2)):=by
        refine aS.insert HO.out (by rw[<-HSS.out];exact HSo.out) (fun y hy=>?_) HAll.out (fun q hq=>?_)
        ·have h:=HT.out;rw[HPQ.out,HQ.out] at h;exact(Oi.1 h).2.2 y hy x sM
        ·rw[HN1.out] at hq;simp at hq
       clear I;have hgt':decide ((a:Int)<(jj:Int))=false:=OV oM;go_upto_region 4 with fail
       go_quiet (fail)
       go_wp2_with fail;go_roundw
       ·exact⟨i+1,P++[x],Q',S1++x::S2,by go_num,by rw[HI.out];simp;omega,by simp,by omega,by rw[HPQ.out,HQ.out];simp,HD.out,J.out.step (Below.drewN (OG _ _) _)⟩
       ·exact iO
    ·have HF:Hid (Q=[]):=by
      have h1:=HBq.out;have h2:=HI.out;have h3:=HA.out;rw[HPQ.out] at h1;simp at h1;exact OL oM
     clear I;go_wp2_with fail
     go_end0
     refine⟨rfl,S,?_,?_⟩
     ·have:=HSo.out;rw[HPQ.out,HF.out,Om];exact this
     ·have:=J.out;rw[HF.out,PG] at this;exact this
end
end Go.Proofs.YtgfoliedmhgpnaaGreatDoor
