/- Parts of the proof, joined: EncKey, EncKey2, CrcPure, Crc, ShCode, ValCmpPure, Kit7, SortOrd, ValOrder, IvPure, IvCut, IvAll, SortPure, IvRec. -/
import Derived.Test.YthfahkaadbdicaaGreatDoorRt1
import Derived.Test.YthfahkaadbdicaaGreatDoorRt3
import Derived.Test.YthfahkaadbdicaaGreatDoorRt5
import Derived.Test.YthfahkaadbdicaaGreatDoorRt2
import Derived.Lib.Bytealg
import Derived.Lib.Small
set_option maxRecDepth 100000
set_option maxHeartbeats 16000000
set_option linter.unusedSimpArgs false
open Go.Proofs.Tryz
open ByteArray (empty)
namespace Go.Proofs.YthfahkaadbdicaaGreatDoor
open Go.RowKit
theorem GW(t:ByteArray):(t.toList==[])=decide (t.size=0):=by
 rw[ByteArray.toList_eq,<-nj];cases t.data.toList with
 | nil=>rfl
 | cons a r=>simp
theorem Is(n:Nat):((n:Int)==0)=decide (n=0):=by
 by_cases h:n=0
 ·rw[h];rfl
 ·rw[LW h];exact Ny.2 (by omega)
theorem ww(x:aC)(c:VC)(w:World)(hT:cg w)(h:RW w c x):
 Calls prog 80 #[c.val] w fun e w'=>e=.returned (.bool (cr x))/\Below w.heap.size w w':=by
 have ho:=h.open
 have hvk:x.k=0->aO x=false:=fun e=>by
  cases hv:aO x
  ·rfl
  ·simp only[aO,ME] at hv;obtain⟨_,_,_,_,h5⟩:=((aZ aN x).1 (eO.1 hv.2)).1;omega
 have B0:Hid (aE (w.alloc (.cells c.arr 29)) w.heap.size 29 c.arr):=aE.Jq rfl;have BE:Hid (Below w.heap.size w (w.alloc (.cells c.arr 29))):=(LH _ _).alloc (qL) _;have HV:=qD fun(w1:World) (hb:Below w.heap.size w w1)=>iB x c w1 (hT.step hb) (h.step hb);have hk:=ho.k;have hn:=ho.n;have ht:=ho.t;have hl:=ho.ln;have hd:=ho.dn;have HK:=qD (And.intro hk (And.intro hn (And.intro ht (And.intro hl (And.intro hd hvk)))));clear hT h ho hk hn ht hl hd hvk;go_enter func80,ntmps80;go_upto_region 1 with fail
 change (Code.region 1 _ _).wp _ _ _ (w.alloc (.cells c.arr 29));generalize w.alloc (.cells c.arr 29)=wa at*;obtain⟨b0,b1,b2,b3,b4⟩:=bS.Jr B0.out;simp only[LL] at b0 b1 b2 b3 b4;by_cases h0:c.k=0
 ·obtain⟨hk,hn,ht,hl,hd,hvk⟩:=HK.out;have hva:=hvk (by rw[<-hk];exact h0)
  have HA:Hid (cr x=(decide (c.n=0)&&(decide (c.t.size=0)&&(decide (c.ln=0)&&decide (c.dn=0))))):=by
   unfold Hid cr jC;rw[hva,<-hk,<-hn,<-ht,<-hl,<-hd,LN h0];simp
  have hsz:=GW c.t;have P0:∀q:BW wa,q.val.cell? ⟨w.heap.size,0,none⟩=some (.int .i64 c.k):=fun q=>q.cell b0;have P1:∀q:BW wa,q.val.cell? ⟨w.heap.size,1,none⟩=some (.int .i64 c.n):=fun q=>q.cell b1;have P2:∀q:BW wa,q.val.cell? ⟨w.heap.size,2,none⟩=some (.string c.t):=fun q=>q.cell b2;have P3:∀q:BW wa,q.val.cell? ⟨w.heap.size,3,none⟩=some (.slice c.LA c.ln c.lc):=fun q=>q.cell b3;have P4:∀q:BW wa,q.val.cell? ⟨w.heap.size,4,none⟩=some (.slice c.DA c.dn c.dc):=fun q=>q.cell b4;clear hk hn ht hl hd hva hvk;go_upto_region 2 with fail
  by_cases h1:c.n=0
  ·by_cases h2:c.t.size=0
   ·have h2b:(c.t.toList==[])=true:=by rw[hsz,LN h2]
    by_cases h3:c.ln=0
    ·go_wp2_with fail;go_ret;exact⟨by rw[HA.out];simp[h1,h2,h3,Is],BE.out⟩
    ·go_wp2_with fail;go_ret;exact⟨by rw[HA.out];simp[h1,h2,h3],BE.out⟩
   ·have h2b:(c.t.toList==[])=false:=by rw[hsz,LW h2]
    go_wp2_with fail;go_ret;exact⟨by rw[HA.out];simp[h1,h2],BE.out⟩
  ·go_wp2_with fail;go_ret;exact⟨by rw[HA.out];simp[h1],BE.out⟩
 ·obtain⟨hk,hn,ht,hl,hd,hvk⟩:=HK.out;have h0b:(c.k==0)=false:=by simpa using h0
  have HA:Hid (cr x=aO x):=by
   unfold Hid cr jC;rw[<-hk,LW h0];rfl
  clear hk hn ht hl hd hvk;go_wp2_with fail;refine(HV.out wa BE.out).mono ?_;rintro e w1 ⟨rfl,hb⟩;have CE:=qD (BE.out.Jp hb);clear b0 b1 b2 b3 b4 hb HV B0;go_wp2_with fail;go_ret;exact⟨by rw[HA.out];rfl,CE.out⟩
theorem xB(x:aC)(c:VC)(w:World)(h:RW w c x):
 Calls prog 110 #[c.val] w fun e w'=>e=.returned (.bool (jC x))/\Below w.heap.size w w':=by
 have ho:=h.open;have hk:=ho.k;have hn:=ho.n;have ht:=ho.t;have hl:=ho.ln;have hd:=ho.dn
 have HA:Hid (jC x=(decide (c.k=0)&&(decide (c.n=0)&&(decide (c.t.size=0)&&(decide (c.ln=0)&&decide (c.dn=0)))))):=by
  unfold Hid jC;rw[<-hk,<-hn,<-ht,<-hl,<-hd]
 clear hk hn ht hl hd h ho;have B0:Hid (aE (w.alloc (.cells c.arr 29)) w.heap.size 29 c.arr):=aE.Jq rfl;have BE:Hid (Below w.heap.size w (w.alloc (.cells c.arr 29))):=(LH _ _).alloc (qL) _;have hsz:=GW c.t;go_enter func110,ntmps110;go_upto_region 1 with fail
 change (Code.region 1 _ _).wp _ _ _ (w.alloc (.cells c.arr 29));generalize w.alloc (.cells c.arr 29)=wa at*;obtain⟨b0,b1,b2,b3,b4⟩:=bS.Jr B0.out;simp only[LL] at b0 b1 b2 b3 b4;by_cases h0:c.k=0
 ·by_cases h1:c.n=0
  ·by_cases h2:c.t.size=0
   ·have h2b:(c.t.toList==[])=true:=by rw[hsz,LN h2]
    by_cases h3:c.ln=0
    ·go_wp2_with fail;go_ret;exact⟨by rw[HA.out];simp[h0,h1,h2,h3,Is],BE.out⟩
    ·go_wp2_with fail;go_ret;exact⟨by rw[HA.out];simp[h0,h1,h2,h3],BE.out⟩
   ·have h2b:(c.t.toList==[])=false:=by rw[hsz,LW h2]
    go_wp2_with fail;go_ret;exact⟨by rw[HA.out];simp[h0,h1,h2],BE.out⟩
  ·go_wp2_with fail;go_ret;exact⟨by rw[HA.out];simp[h0,h1],BE.out⟩
 ·have h0b:(c.k==0)=false:=by simpa using h0
  go_wp2_with fail;go_ret;exact⟨by rw[HA.out];simp[h0],BE.out⟩
noncomputable def eC(l:List aC):Bool:=l.all cr
noncomputable def eD(l:List aC):ByteArray×Int:=if eC l then(strOfNums (cS l),0) else(empty,8)
theorem jP{l:List aC}(h:eC l=true):eD l=(strOfNums (cS l),0):=LZ h
theorem tu{l:List aC}{i:Nat}{y:aC}(hy:l[i]?=some y)(h:cr y=false):eD l=(empty,8):=by
 have:eC l=false:=by
  unfold eC;rw[Ot];exact⟨y,LP hy,by rw[h];decide⟩
 unfold eD;rw[this];rfl
theorem oP{l:List aC}{i:Nat}{y:aC}(hy:l[i]?=some y)(ha:eC (l.take i)=true)(h:cr y=true):eC (l.take (i+1))=true:=by
 unfold eC at*;rw[take_snoc' hy,OK,ha];simp[h]
theorem qJ{l:List aC}(h:eC l=true):(cS l).length<=8500000*l.length:=by
 induction l with
 | nil=>simp[cS]
 | cons a r ih=>
  have e:cS (a::r)=aq a++cS r:=rfl;unfold eC at h;rw[QQ,ME] at h;have h1:=(eF h.1).2;have h2:=ih h.2;rw[e,LM,Ll];omega
def xC(b:Bool):List Value:=[.bool b]
theorem GB{w:World}{base m:Nat}{v:Value}{xs:List Int}(h:w.ownsRow base 5 1 v m (ai xs))(hm:m=xs.length):(convert 116 9 v).run prog w=.ok (.string (strOfNums xs)) w:=by
 rcases h.2 with⟨rfl,rfl⟩|⟨g,cap,cur,rfl,_⟩
 ·have:xs=[]:=LO hm.symm;subst this;exact run_convert_bytes_nil (P:=prog) w 116 5 MM NC 0 0 9 MB
 ·refine NP (P:=prog) w 116 5 MM NC g 0 m cap xs hm.symm (fun i hi=>?_) 9 MB;have hx:xs[i]?=some (xs.getD i 0):=by rw[Ph,LI (by omega)];rfl
  have:=h.cells (g:=g) rfl i (.int .u8 (xs.getD i 0)) (by unfold ai;rw[LV,hx];rfl)
  rwa [bn] at this
structure GX(w:World)(v:Value)(m:Nat)(l:List Int)(wr:World):Prop where
 own:wr.ownsRow w.heap.size 5 1 v m (ai l)
 ln:m=l.length
 bel:Below w.heap.size w wr
theorem GX.step{w wr w':World}{v:Value}{m:Nat}{l:List Int}(h:GX w v m l wr)(hb:Below wr.heap.size wr w'):GX w v m l w':=⟨aV h.own hb,h.ln,h.bel.Jp hb⟩
theorem GX.call{w wr w':World}{v:Value}{m:Nat}{l l':List Int}{e:Ending}(h:GX w v m l wr)(ha:ig w.heap.size v l' wr e w'):∃v',e=.returned v'/\GX w v' l'.length l' w':=by
 obtain⟨v',he,ho,hg,hb⟩:=ha;exact⟨v',he,ho,rfl,h.bel.grown hg h.bel.size fun g hg'=>bU h.own g hg'⟩
theorem qK(ps:List PV)(A B:Option Addr)(n c bc:Nat)(w:World)(hT:cg w)(h:SL (fun _=>True) w A n c ps)(hd:SR 1 xC w B n bc (List.replicate n false))(hn:n<=10):
 Calls prog 34 #[.slice A n c,.slice B n bc] w fun e w'=>e=.returned (.tuple #[.string (eD (ps.map Prod.snd)).1,.int .i64 (eD (ps.map Prod.snd)).2])/\Below w.heap.size w w':=by
 have HT:=qD hT;have H:=qD h;have HD:=qD hd;have HL:Hid (n=ps.length):=h.sr.ln;clear hT h hd;have I0:Hid (GX w (.slice none 0 0) 0 [] w):=⟨bC _ _ _ _,rfl,LH _ _⟩;go_enter func34,ntmps34;go_upto_region 5 with fail
 go_loopw [6,7,8,9,10,18] (fun u6 _ _ _ _ u18 wr=>∃i m:Nat,i<=n/\u18=.int .i64 i/\eC ((ps.map Prod.snd).take i)=true/\GX w u6 m (cS ((ps.map Prod.snd).take i)) wr) (fun _ _ _ _ _ u18 _=>n-(intOf u18).toNat)
 ·exact⟨0,0,LQ _,rfl,rfl,I0.out⟩
 case round=>
  obtain⟨i,m,hi,rfl,hal,J⟩:=hrel;have J2:=qD J;have HAL:=qD hal
  have hmb:m<=85000000:=by
   have h1:=J.ln;have h2:=qJ hal;have h3:((ps.map Prod.snd).take i).length<=i:=OY _ _;omega
  clear J hal I0;obtain⟨Am,cm,hvm,hlm⟩:=aa J2.out.own;subst hvm;by_cases hlt:i<n
  ·obtain⟨p,hp⟩:∃p,ps[i]?=some p:=⟨_,LI (by have:=HL.out;omega)⟩;obtain⟨b,off,hA,_,hat,hrv⟩:=H.out.KE hp;subst hA;have hpl:(ps.map Prod.snd)[i]?=some p.2:=by rw[LV,hp];rfl
   obtain⟨q0,q1,q2,q3,q4⟩:=hat.step J2.out.bel;have hbw:b<wr.heap.size:=Lr wr _ q0;have HR:=qD hrv.lt;have HPL:=qD hpl;have i0':(0:Int)<=(i:Int):=by omega
   have i1':(i:Int)<(n:Int):=by omega
   clear hp hat hrv hpl;go_upto_region 7 with fail
   change (Code.region 7 _ _).wp _ _ _ (wr.alloc (.cells p.1.arr 29));have JB:Hid (aE (wr.alloc (.cells p.1.arr 29)) wr.heap.size 29 p.1.arr):=aE.Jq rfl;have J3:=qD (J2.out.step ((LH wr.heap.size wr).alloc (qL) (Obj.cells p.1.arr 29)));have NE:(Value.slice Am m cm).ownBlock≠some wr.heap.size:=fun e=>absurd (ej J2.out.own e) (by omega);generalize wr.alloc (.cells p.1.arr 29)=wa at*;generalize wr.heap.size=ga at*;clear q0 q1 q2 q3 q4 J2;obtain⟨q0,q1,q2,q3,q4⟩:=bS.Jr JB.out;simp only[LL] at q0 q1 q2 q3 q4;have HAW:=qD (ww p.2 p.1 wa (HT.out.step J3.out.bel) ((HR.out.Jv fun b hb _=>⟨trivial,J3.out.bel.block b hb.2⟩)));cases hA:cr p.2
   ·have HK:=qD (tu HPL.out hA);rw[hA] at HAW;clear hA;go_wp2_with fail;refine HAW.out.mono ?_;rintro e w1 ⟨rfl,hb⟩;have J4:=qD (J3.out.step hb);clear q0 q1 q2 q3 q4 hb HAW J3 JB;go_wp2_with fail;go_ret2;exact⟨by rw[HK.out];rfl,J4.out.bel⟩
   ·have HSN:=qD (ni HPL.out);have HAS:=qD (oP HPL.out HAL.out hA);have HE1:=qD (eF hA);rw[hA] at HAW;clear hA;go_wp2_with fail;refine HAW.out.mono ?_;rintro e w1 ⟨rfl,hb⟩;have J4:=qD (J3.out.step hb);have JB2:=qD (JB.out.step hb);clear q0 q1 q2 q3 q4 hb HAW J3 JB;obtain⟨q0,q1,q2,q3,q4⟩:=bS.Jr JB2.out;simp only[LL] at q0 q1 q2 q3 q4;have hap:=Fx p.2 p.1 (.slice Am m cm) (cS ((ps.map Prod.snd).take i)) w.heap.size m w1 (HR.out.Jv fun b hb _=>⟨hb.2,J4.out.bel.block b hb.2⟩) HE1.out.1 J4.out.bel.size J4.out.ln J4.out.own (by have h1:=J4.out.ln;have h2:=HE1.out.2;omega);have HAP:=qD hap;clear hap;go_upto_region 10 with fail
    go_wp2_with fail;refine HAP.out.mono ?_;rintro e w2 hok;obtain⟨v3,rfl,hJ5⟩:=J4.out.call hok;rw[<-HSN.out] at hJ5;have J5:=qD hJ5;clear q0 q1 q2 q3 q4 HAP hok hJ5 J4 JB2;obtain⟨b',off',hB,hbB,hel⟩:=HD.out.el (by omega);have hde:=hel i false (by rw[Ol,LZ hlt]) 0 _ rfl;have hde2:=(J5.out.bel.cell (p:=⟨b',off'+i*1+0,none⟩) hbB).trans hde;rw[Oj,Ms] at hde2;subst hB;clear hel hde;obtain⟨A3,c3,hv3,hlc3⟩:=aa J5.out.own;subst hv3;go_wp2_with fail;go_roundw
    ·exact⟨i+1,_,hlt,by go_num,HAS.out,J5.out⟩
    ·simp[intOf];omega
  ·obtain rfl:i=n:=by omega
   have hTK:(ps.map Prod.snd).take i=ps.map Prod.snd:=LS (by rw[Lb];have:=HL.out;omega);have hal:=HAL.out;have hln:=J2.out.ln;have hcv:=GB J2.out.own J2.out.ln;rw[hTK] at hal hcv;obtain⟨Z,hZ⟩:∃Z,Z=strOfNums (cS (ps.map Prod.snd)):=⟨_,rfl⟩;rw[<-hZ] at hcv;have HK:Hid (eD (ps.map Prod.snd)=(Z,0)):=by rw[hZ];exact jP hal
   clear hTK hal hln hZ;go_wp2_with fail;go_ret2;exact⟨by rw[HK.out];rfl,J2.out.bel⟩
def gL(r:Nat):Nat:=if r%2=1 then(r/2) ^^^ 2197175160 else r/2
def dp(r:Nat):Nat->Nat
 | 0=>r
 | k+1=>gL (dp r k)
def tv(r b:Nat):Nat:=dp (r ^^^ b) 8
def qM(r:Nat)(l:List UInt8):Nat:=l.foldl (fun r x=>tv r x.toNat) r
def fJ(s:ByteArray):Nat:=qM 4294967295 s.data.toList ^^^ 4294967295
theorem sY{a b:Nat}(ha:a<4294967296)(hb:b<4294967296):a ^^^ b<4294967296:=Nat.xor_lt_two_pow (n:=32) ha hb
theorem zR{r:Nat}(h:r<4294967296):gL r<4294967296:=by
 unfold gL;split
 ·exact sY (by omega) (by omega)
 ·omega
theorem im{r:Nat}(h:r<4294967296):∀k,dp r k<4294967296
 | 0=>h
 | k+1=>zR (im h k)
theorem zS{r b:Nat}(h:r<4294967296)(hb:b<256):tv r b<4294967296:=im (sY h (by omega)) 8
theorem tw(l:List UInt8):∀{r:Nat},r<4294967296->qM r l<4294967296:=by
 induction l with
 | nil=>intro r h;exact h
 | cons x l ih=>
  intro r h;exact ih (zS h (by have:=x.toNat_lt;omega))
theorem nW(s:ByteArray):fJ s<4294967296:=by
 unfold fJ;exact sY (tw _ (by omega)) (by omega)
theorem sZ{r:Nat}{l:List UInt8}{i:Nat}{x:UInt8}(h:l[i]?=some x):qM r (l.take (i+1))=tv (qM r (l.take i)) x.toNat:=by
 unfold qM;rw[MW,h,Pu];simp only[Option.toList,List.foldl_cons,List.foldl_nil]
theorem nX(a:Nat)(ha:a<4294967296):(BitVec.ofInt 32 (a:Int)).toNat=a:=by
 rw[BitVec.ofInt_natCast,BitVec.toNat_ofNat];exact Nat.mod_eq_of_lt (by omega)
theorem xD(a:Nat)(ha:a<4294967296):bits .and .u32 (a:Int) 1=((a%2:Nat):Int):=by
 have e:(BitVec.ofInt 32 (1:Int)).toNat=1:=by decide
 show IntKind.u32.wrap ((BitVec.ofInt 32 (a:Int)&&& BitVec.ofInt 32 (1:Int)).toNat:Int)=_;rw[BitVec.toNat_and,nX a ha,e,Nat.and_one_is_mod,QH];omega
theorem gR(a b:Nat)(ha:a<4294967296)(hb:b<4294967296):bits .xor .u32 (a:Int) (b:Int)=((a ^^^ b:Nat):Int):=by
 have hx:=sY ha hb;show IntKind.u32.wrap ((BitVec.ofInt 32 (a:Int) ^^^ BitVec.ofInt 32 (b:Int)).toNat:Int)=_;rw[QF,nX a ha,nX b hb,QH];omega
theorem dsize'(t:ByteArray):t.data.toList.length=t.size:=by rw[Lv];rfl
theorem Eb(r:Nat):(r:Int)/2=((r/2:Nat):Int):=by omega
theorem uA{a:Nat}(h:a<4294967296):IntKind.u32.wrap (a:Int)=(a:Int):=by rw[QH];omega
theorem CV(r:Nat):(r%2=1/\gL r=(r/2) ^^^ 2197175160)\/(r%2=0/\gL r=r/2):=by
 unfold gL;rcases Nat.mod_two_eq_zero_or_one r with h|h
 ·exact .inr ⟨h,by rw[LU (by omega)]⟩
 ·exact .inl ⟨h,by rw[LZ h]⟩
theorem qN{r:Nat}(hr:r<4294967296):∃o h c:Nat,bits .and .u32 (r:Int) 1=(o:Int)/\(r:Int)/2=(h:Int)/\IntKind.u32.wrap (h:Int)=(h:Int)/\bits .xor .u32 (h:Int) 2197175160=(c:Int)/\h<4294967296/\((o=1/\gL r=c)\/(o=0/\gL r=h)):=by
 refine⟨r%2,r/2,(r/2) ^^^ 2197175160,xD r hr,Eb r,uA (by omega),gR (r/2) 2197175160 (by omega) (by omega),by omega,?_⟩;rcases CV r with⟨h1,h2⟩|⟨h1,h2⟩
 ·exact .inl ⟨h1,h2⟩
 ·exact .inr ⟨h1,h2⟩
theorem GC(s:ByteArray)(w:World)(hs:s.size<=140737488355328):Calls prog 75 #[.string s] w fun e w'=>e=.returned (.int .u32 ((fJ s:Nat):Int))/\w'=w:=by
 go_enter func75,ntmps75;go_upto_region 3 with fail
 go_loopw [3,4,5,8,17] (fun u3 _ _ u8 _ wr=>∃i:Nat,i<=s.size/\u8=.int .i64 i/\u3=.int .u32 ((qM 4294967295 (s.data.toList.take i):Nat):Int)/\wr=w) (fun _ _ _ u8 _ _=>s.size-(intOf u8).toNat)
 ·exact⟨0,LQ _,rfl,rfl,rfl⟩
 case round=>
  obtain⟨i,hi,rfl,rfl,rfl⟩:=hrel;have hlt32:=tw (s.data.toList.take i) (r:=4294967295) (by omega);obtain⟨r,hr⟩:∃r,r=qM 4294967295 (s.data.toList.take i):=⟨_,rfl⟩;rw[<-hr] at hlt32 ⊢;have HR:=qD hr;clear hr;have sz:(s.size:Int)<=140737488355328:=by omega
  have i0:(0:Int)<=(i:Int):=by omega
  by_cases hlt:i<s.size
  ·have hx:=s[i].toNat_lt;have HSN:=qD (sZ (r:=4294967295) (fX s i hlt));obtain⟨b,hb⟩:∃b,b=s[i].toNat:=⟨_,rfl⟩;have hbw:IntKind.u32.wrap (s[i].toNat:Int)=(b:Int):=by rw[hb];exact uA (by omega)
   have hxr:=gR r b hlt32 (by omega);obtain⟨r0,hr0⟩:∃r0,r0=r ^^^ b:=⟨_,rfl⟩;have hr0l:r0<4294967296:=by rw[hr0];exact sY hlt32 (by omega)
   rw[<-hr0] at hxr;have i1:(i:Int)<(s.size:Int):=by omega
   have HNX:Hid (qM 4294967295 (s.data.toList.take (i+1))=dp r0 8):=by
    refine HSN.out.trans ?_;rw[hr0,HR.out,hb];rfl
   have HR0:=qD hr0l;clear hb hr0;go_upto_region 7 with fail
   clear hxr hbw hx hr0l HSN
   go_loopw [3,5,17] (fun u3 _ u17 wx=>∃k:Nat,k<=8/\u17=.int .i64 k/\u3=.int .u32 ((dp r0 k:Nat):Int)/\wx=wr) (fun _ _ u17 _=>9-(intOf u17).toNat)
   ·exact⟨0,LQ _,rfl,rfl,rfl⟩
   case round=>
    obtain⟨k,hk,rfl,rfl,rfl⟩:=hrel;have hl:=im HR0.out k;have hstep:dp r0 (k+1)=gL (dp r0 k):=rfl;obtain⟨r1,hr1⟩:∃r1,r1=dp r0 k:=⟨_,rfl⟩;rw[<-hr1] at hl hstep ⊢;have HR1:=qD hr1;have HST:=qD hstep;clear hr1 hstep;by_cases hk8:k<8
    ·obtain⟨o,h,c,f1,f2,f3,f4,f5,f6⟩:=qN hl;have HL:=qD hl;have k0:(0:Int)<=(k:Int):=by omega
     clear hl;rcases f6 with⟨rfl,f7⟩|⟨rfl,f7⟩
     ·have HF:=qD f7;clear f7;go_wp2_with fail;go_roundw
      ·exact⟨k+1,hk8,by go_num,by rw[HST.out,HF.out],trivial⟩
      ·simp[intOf];omega
     ·have HF:=qD f7;clear f7;go_wp2_with fail;go_roundw
      ·exact⟨k+1,hk8,by go_num,by rw[HST.out,HF.out],trivial⟩
      ·simp[intOf];omega
    ·obtain rfl:k=8:=by omega
     go_wp2_with fail;go_roundw
     ·exact⟨i+1,hlt,by go_num,by rw[HNX.out,<-HR1.out],trivial⟩
     ·simp[intOf];omega
  ·obtain rfl:i=s.size:=by omega
   have hTK:s.data.toList.take s.size=s.data.toList:=LS (by rw[dsize'];exact qL)
   have HX:Hid (bits .xor .u32 IntKind.u32.max (r:Int)=((fJ s:Nat):Int)):=by
    have e:=gR 4294967295 r (by omega) hlt32;rw[Nat.xor_comm] at e;unfold Hid fJ;rw[<-hTK,<-HR.out];exact e
   clear hTK;go_wp2_with fail;go_ret;exact⟨by rw[<-HX.out];rfl,rfl⟩
theorem Ec(s:ByteArray)(w:World)(hs:s.size<=140737488355328):Calls prog 178 #[.string s] w fun e w'=>e=.returned (.int .u32 ((fJ s:Nat):Int))/\w'=w:=by
 go_enter func178,ntmps178;go_upto_region 3 with fail
 go_loopw [3,4,5,6] (fun u3 u8 _ _ wr=>∃i:Nat,i<=s.size/\u8=.int .i64 i/\u3=.int .u32 ((qM 4294967295 (s.data.toList.take i):Nat):Int)/\wr=w) (fun _ u8 _ _ _=>s.size-(intOf u8).toNat)
 ·exact⟨0,LQ _,rfl,rfl,rfl⟩
 case round=>
  obtain⟨i,hi,rfl,rfl,rfl⟩:=hrel;have hlt32:=tw (s.data.toList.take i) (r:=4294967295) (by omega);obtain⟨r,hr⟩:∃r,r=qM 4294967295 (s.data.toList.take i):=⟨_,rfl⟩;rw[<-hr] at hlt32 ⊢;have HR:=qD hr;clear hr;have sz:(s.size:Int)<=140737488355328:=by omega
  have i0:(0:Int)<=(i:Int):=by omega
  by_cases hlt:i<s.size
  ·have hx:=s[i].toNat_lt;have HSN:=qD (sZ (r:=4294967295) (fX s i hlt));obtain⟨b,hb⟩:∃b,b=s[i].toNat:=⟨_,rfl⟩;have hbw:IntKind.u32.wrap (s[i].toNat:Int)=(b:Int):=by rw[hb];exact uA (by omega)
   have hxr:=gR r b hlt32 (by omega);obtain⟨r0,hr0⟩:∃r0,r0=r ^^^ b:=⟨_,rfl⟩;have hr0l:r0<4294967296:=by rw[hr0];exact sY hlt32 (by omega)
   rw[<-hr0] at hxr;have i1:(i:Int)<(s.size:Int):=by omega
   have HNX:Hid (qM 4294967295 (s.data.toList.take (i+1))=dp r0 8):=by
    refine HSN.out.trans ?_;rw[hr0,HR.out,hb];rfl
   have HR0:=qD hr0l;clear hb hr0;go_upto_region 7 with fail
   clear hxr hbw hx hr0l HSN
   go_loopw [3,5,6] (fun u3 u17 _ wx=>∃k:Nat,k<=8/\u17=.int .i64 k/\u3=.int .u32 ((dp r0 k:Nat):Int)/\wx=wr) (fun _ u17 _ _=>9-(intOf u17).toNat)
   ·exact⟨0,LQ _,rfl,rfl,rfl⟩
   case round=>
    obtain⟨k,hk,rfl,rfl,rfl⟩:=hrel;have hl:=im HR0.out k;have hstep:dp r0 (k+1)=gL (dp r0 k):=rfl;obtain⟨r1,hr1⟩:∃r1,r1=dp r0 k:=⟨_,rfl⟩;rw[<-hr1] at hl hstep ⊢;have HR1:=qD hr1;have HST:=qD hstep;clear hr1 hstep;by_cases hk8:k<8
    ·obtain⟨o,h,c,f1,f2,f3,f4,f5,f6⟩:=qN hl;have HL:=qD hl;have k0:(0:Int)<=(k:Int):=by omega
     clear hl;rcases f6 with⟨rfl,f7⟩|⟨rfl,f7⟩
     ·have HF:=qD f7;clear f7;go_wp2_with fail;go_roundw
      ·exact⟨k+1,hk8,by go_num,by rw[HST.out,HF.out],trivial⟩
      ·simp[intOf];omega
     ·have HF:=qD f7;clear f7;go_wp2_with fail;go_roundw
      ·exact⟨k+1,hk8,by go_num,by rw[HST.out,HF.out],trivial⟩
      ·simp[intOf];omega
    ·obtain rfl:k=8:=by omega
     go_wp2_with fail;go_roundw
     ·exact⟨i+1,hlt,by go_num,by rw[HNX.out,<-HR1.out],trivial⟩
     ·simp[intOf];omega
  ·obtain rfl:i=s.size:=by omega
   have hTK:s.data.toList.take s.size=s.data.toList:=LS (by rw[dsize'];exact qL)
   have HX:Hid (bits .xor .u32 (r:Int) 4294967295=((fJ s:Nat):Int)):=by
    have e:=gR r 4294967295 hlt32 (by omega);unfold Hid fJ;rw[<-hTK,<-HR.out];exact e
   clear hTK;go_wp2_with fail;go_ret;exact⟨by rw[<-HX.out];rfl,rfl⟩
noncomputable def bB(x:aC):Int:=if cr x then((fJ (strOfNums (aq x)):Nat):Int) else 0
theorem xE(x:aC):0<=bB x/\bB x<4294967296:=by
 unfold bB;split
 ·have:=nW (strOfNums (aq x));omega
 ·omega
theorem dZ{x:aC}(h:cr x=true):eD [x]=(strOfNums (aq x),0):=by
 have e:cS [x]=aq x:=by simp[cS]
 rw[jP (by simp[eC,h]),e]
theorem oQ{x:aC}(h:cr x=false):eD [x]=(empty,8):=tu (i:=0) rfl h
theorem qO{w:World}{g:Nat}{c:VC}{x:aC}(h:aE w g 29 c.arr)(hr:RW w c x):SL (fun _=>True) w (some ⟨g,0,none⟩) 1 1 [(c,x)]:=by
 refine⟨⟨rfl,qL,fun _=>⟨g,0,rfl,h.lt,fun i a hi j v hj=>?_⟩⟩,by decide,fun _=>⟨g,0,rfl,Ft.Kp⟩,fun p hp=>?_⟩
 ·cases i with
  | zero=>
   simp at hi;subst hi;have:=pT (bS.Jr h) j v hj;simpa using this
  | succ i=>simp at hi
 ·simp at hp;subst hp;exact hr
theorem zT{w:World}{g:Nat}{t:TypeId}(h:aE w g t #[.bool false]):SR 1 xC w (some ⟨g,0,none⟩) 1 1 (List.replicate 1 false):=by
 refine⟨rfl,qL,fun _=>⟨g,0,rfl,h.lt,fun i a hi j v hj=>?_⟩⟩;cases i with
 | zero=>
  simp at hi;subst hi;cases j with
  | zero=>simp[xC] at hj;subst hj;exact h.cell 0
  | succ j=>simp[xC] at hj
 | succ i=>simp at hi
theorem jQ(x:aC)(c:VC)(w:World)(hT:cg w)(h:RW w c x):
 Calls prog 74 #[c.val] w fun e w'=>e=.returned (.tuple #[.string (eD [x]).1,.int .i64 (eD [x]).2])/\Below w.heap.size w w':=by
 have H:=qD h;have HT:=qD hT;have BE:Hid (Below w.heap.size w (((w.alloc (.cells c.arr 29)).alloc (.cells c.arr 29)).alloc (.cells #[.bool false] 4))):=(((LH _ _).alloc (qL) _).alloc (by simp) _).alloc (by simp;omega) _;have B1:Hid (aE (((w.alloc (.cells c.arr 29)).alloc (.cells c.arr 29)).alloc (.cells #[.bool false] 4)) (w.heap.size+1) 29 c.arr):=(aE.Jq (by simp)).alloc _;have B2:Hid (aE (((w.alloc (.cells c.arr 29)).alloc (.cells c.arr 29)).alloc (.cells #[.bool false] 4)) (w.heap.size+2) 4 #[.bool false]):=aE.Jq (by simp);obtain⟨wb,hwb⟩:∃wb,wb=(((w.alloc (.cells c.arr 29)).alloc (.cells c.arr 29)).alloc (.cells #[.bool false] 4)):=⟨_,rfl⟩;rw[<-hwb] at BE B1 B2;have HC:=qD (qK [(c,x)] (some ⟨w.heap.size+1,0,none⟩) (some ⟨w.heap.size+2,0,none⟩) 1 1 1 wb (HT.out.step BE.out) (qO B1.out (H.out.step BE.out)) (zT B2.out) (by omega));rw[hwb] at HC;have HWB:=qD hwb;clear h hT hwb;simp only[Mb,NR] at HC;obtain⟨K,hK⟩:∃K,eD [x]=K:=⟨_,rfl⟩;rw[hK] at HC ⊢;clear hK;obtain⟨K1,K2⟩:=K;go_enter func74,ntmps74;go_wp2_with fail;refine HC.out.mono ?_;rintro e w1 ⟨rfl,hb⟩;rw[<-HWB.out] at hb;have CE:=qD (BE.out.Jp hb);clear hb HC B1 B2;go_wp2_with fail;go_ret2;exact⟨rfl,CE.out⟩
theorem mu(x:aC)(c:VC)(w:World)(hT:cg w)(h:RW w c x):
 Calls prog 30 #[c.val] w fun e w'=>e=.returned (.int .i64 (bB x))/\Below w.heap.size w w':=by
 have H:=qD h;have B0:Hid (aE (w.alloc (.cells c.arr 29)) w.heap.size 29 c.arr):=aE.Jq rfl;have BE:Hid (Below w.heap.size w (w.alloc (.cells c.arr 29))):=(LH _ _).alloc (qL) _;have HC:=qD fun(w1:World) (hb:Below w.heap.size w w1)=>jQ x c w1 (hT.step hb) (h.step hb);clear h hT;go_enter func30,ntmps30;go_upto_region 1 with fail
 change (Code.region 1 _ _).wp _ _ _ (w.alloc (.cells c.arr 29));generalize w.alloc (.cells c.arr 29)=wa at*;obtain⟨q0,q1,q2,q3,q4⟩:=bS.Jr B0.out;simp only[LL] at q0 q1 q2 q3 q4;have HCA:=qD (HC.out wa BE.out);cases hA:cr x
 ·have HV:Hid (bB x=0):=by unfold Hid bB;rw[hA];rfl
  rw[oQ hA] at HCA;clear hA HC;go_wp2_with fail;refine HCA.out.mono ?_;rintro e w1 ⟨rfl,hb⟩;have CE:=qD (BE.out.Jp hb);clear q0 q1 q2 q3 q4 hb HCA B0;go_wp2_with fail;go_ret;exact⟨by rw[HV.out];rfl,CE.out⟩
 ·have HV:Hid (bB x=((fJ (strOfNums (aq x)):Nat):Int)):=by unfold Hid bB;rw[hA];rfl
  have hz:=(eF hA).2;have hzz:(strOfNums (aq x)).size<=140737488355328:=by rw[MQ];omega
  rw[dZ hA] at HCA;have hlt:=nW (strOfNums (aq x));obtain⟨S,hS⟩:∃S,S=strOfNums (aq x):=⟨_,rfl⟩;rw[<-hS] at HCA HV hzz hlt;have HZ:=qD hzz;obtain⟨q,hq⟩:∃q,q=fJ S:=⟨_,rfl⟩;rw[<-hq] at HV hlt;have HQ:=qD hq;have qz:(q:Int)<4294967296:=by omega
  clear hA HC hS hz hzz hlt hq;go_wp2_with fail;refine HCA.out.mono ?_;rintro e w1 ⟨rfl,hb⟩;have CE:=qD (BE.out.Jp hb);clear q0 q1 q2 q3 q4 hb HCA B0;go_wp2_with fail;refine(GC S w1 HZ.out).mono ?_;rintro e w2 ⟨rfl,rfl⟩;rw[<-HQ.out];go_wp2_with fail;go_ret;exact⟨by rw[HV.out];rfl,CE.out⟩
abbrev cp(x y:Int):Int:=Lib.compareInt x y
def bm(a b:ByteArray):Int:=Lib.compareBytes a.data.toList b.data.toList
mutual
def aU:aC->aC->Int
 | .mk k n t l d,y=>
  if k≠y.k then cp k y.k
  else if k=3\/k=9\/k=10 then cp n y.n
  else if k=4\/k=7\/k=8 then bm t y.t
  else if k=6 then cv l y.l
  else if k=5 then cK d y.d
  else 0
def cv:List aC->List aC->Int
 | [],m=>if m.isEmpty then 0 else -1
 | _::_,[]=>1
 | x::r,y::s=>if aU x y≠0 then aU x y else cv r s
def cK:List bf->List bf->Int
 | [],m=>if m.isEmpty then 0 else -1
 | _::_,[]=>1
 | x::r,y::s=>if CW x y≠0 then CW x y else cK r s
def CW:bf->bf->Int
 | .mk s v,g=>if bm s g.s≠0 then bm s g.s else aU v g.v
end
theorem uB(f g:bf):CW f g=if bm f.s g.s≠0 then bm f.s g.s else aU f.v g.v:=by cases f;rw[CW];rfl
theorem gh(x y:aC):aU x y=if x.k≠y.k then cp x.k y.k else if x.k=3\/x.k=9\/x.k=10 then cp x.n y.n else if x.k=4\/x.k=7\/x.k=8 then bm x.t y.t
 else if x.k=6 then cv x.l y.l else if x.k=5 then cK x.d y.d else 0:=by
 cases x;rw[aU];rfl
theorem cU{x y:aC}(h:x.k≠y.k):aU x y=cp x.k y.k:=by rw[gh,LZ h]
theorem xF{x y:aC}(h:x.k=y.k)(h':x.k=3\/x.k=9\/x.k=10):aU x y=cp x.n y.n:=by rw[gh,LU (by simpa using h),LZ h']
theorem sa{x y:aC}(h:x.k=y.k)(h':x.k=4\/x.k=7\/x.k=8):aU x y=bm x.t y.t:=by rw[gh,LU (by simpa using h),LU (by omega),LZ h']
theorem sb{x y:aC}(h:x.k=y.k)(h':x.k=6):aU x y=cv x.l y.l:=by rw[gh,LU (by simpa using h),LU (by omega),LU (by omega),LZ h']
theorem xG{x y:aC}(h:x.k=y.k)(h':x.k=5):aU x y=cK x.d y.d:=by rw[gh,LU (by simpa using h),LU (by omega),LU (by omega),LU (by omega),LZ h']
theorem mD{x y:aC}(h:x.k=y.k)(h3:x.k≠3)(h9:x.k≠9)(h10:x.k≠10)(h4:x.k≠4)(h7:x.k≠7)(h8:x.k≠8)(h6:x.k≠6)(h5:x.k≠5):aU x y=0:=by
 rw[gh,LU (by simpa using h),LU (by omega),LU (by omega),LU h6,LU h5]
theorem gS(a b:Nat):cp (a:Int) (b:Int)=if a<b then -1 else if b<a then 1 else 0:=by
 unfold cp Lib.compareInt;rcases Nk a b with h|h|h
 ·rw[LZ (by omega),LZ h]
 ·rw[LU (by omega),LU (by omega),LU (by omega),LU (by omega)]
 ·rw[LU (by omega),LZ (by omega),LU (by omega),LZ h]
theorem xH{l m:List aC}{i:Nat}(h1:i<=l.length)(h2:i<=m.length)(h:l.length<=i\/m.length<=i):cv (l.drop i) (m.drop i)=cp (l.length:Int) (m.length:Int):=by
 rw[gS];by_cases hl:l.length<=i
 ·rw[La hl,cv];by_cases hm:m.length<=i
  ·rw[La hm,PQ,LZ (Eq.refl true),LU (by omega),LU (by omega)]
  ·rw[LU (by simp;omega),LZ (by omega)]
 ·have hm:m.length<=i:=by omega
  rw[La hm,Mo (by omega:i<l.length),cv,LU (by omega),LZ (by omega)]
theorem AV{l m:List aC}{i:Nat}{x y:aC}(hx:l[i]?=some x)(hy:m[i]?=some y):cv (l.drop i) (m.drop i)=if aU x y≠0 then aU x y else cv (l.drop (i+1)) (m.drop (i+1)):=by
 rw[bM hx,bM hy,cv]
theorem xI{l m:List bf}{i:Nat}(h1:i<=l.length)(h2:i<=m.length)(h:l.length<=i\/m.length<=i):cK (l.drop i) (m.drop i)=cp (l.length:Int) (m.length:Int):=by
 rw[gS];by_cases hl:l.length<=i
 ·rw[La hl,cK];by_cases hm:m.length<=i
  ·rw[La hm,PQ,LZ (Eq.refl true),LU (by omega),LU (by omega)]
  ·rw[LU (by simp;omega),LZ (by omega)]
 ·have hm:m.length<=i:=by omega
  rw[La hm,Mo (by omega:i<l.length),cK,LU (by omega),LZ (by omega)]
theorem AW{l m:List bf}{i:Nat}{x y:bf}(hx:l[i]?=some x)(hy:m[i]?=some y):cK (l.drop i) (m.drop i)=if bm x.s y.s≠0 then bm x.s y.s else if aU x.v y.v≠0 then aU x.v y.v else cK (l.drop (i+1)) (m.drop (i+1)):=by
 rw[bM hx,bM hy,cK,uB];by_cases hb:bm x.s y.s=0
 ·simp[hb]
 ·simp[hb]
theorem se(k:Int):(k=3\/k=9\/k=10)\/(k=4\/k=7\/k=8)\/k=6\/k=5\/(k≠3/\k≠9/\k≠10/\k≠4/\k≠7/\k≠8/\k≠6/\k≠5):=by omega
def cF{α:Type}(l:List α)(k:Nat):List α->List α
 | []=>l
 | v::vs=>cF (l.set k v) (k+1) vs
theorem gA{α:Type}:∀(vs l:List α) (k:Nat),k+vs.length<=l.length->cF l k vs=l.take k++vs++l.drop (k+vs.length):=by
 intro vs
 induction vs with
 | nil=>intro l k _;simp[cF]
 | cons v vs ih=>
  intro l k h;simp only[Ll] at h;rw[cF,ih _ _ (by simp;omega),List.take_set,List.drop_set_of_lt (by omega)]
  have e1:(l.take (k+1)).set k v=l.take k++[v]:=by
   rw[List.take_succ_eq_append_getElem (by omega),Nb _ _ (by simp;omega)];simp;rw[show k-min k l.length=0 by omega];rfl
  rw[e1];simp only[Ld,List.singleton_append,Ll,show k+1+vs.length=k+(vs.length+1) by omega]
def TR(a b c:Int):Prop:=a<=0->b<=0->c<=0/\(c=0↔a=0/\b=0)
def lT(c d:Int):Int:=if c≠0 then c else d
theorem qP(c d:Int):c≠0/\lT c d=c\/c=0/\lT c d=d:=by
 unfold lT;by_cases h:c=0
 ·exact .inr ⟨h,by simp[h]⟩
 ·exact .inl ⟨h,by simp[h]⟩
theorem TR.lx{a b c a' b' c':Int}(h:TR a b c)(h':TR a' b' c'):TR (lT a a') (lT b b') (lT c c'):=by
 intro h1 h2;rcases qP a a' with ha|ha<;>rcases qP b b' with hb|hb<;>rcases qP c c' with hc|hc
 all_goals
  have H:=h (by omega) (by omega);by_cases hab:a=0/\b=0
  ·have H':=h' (by omega) (by omega);omega
  ·omega
theorem xJ(a b:Int):-1<=cp a b/\cp a b<=1:=by unfold cp Lib.compareInt;repeat' split<;>omega
theorem nY(a b:Int):cp b a=-cp a b:=by unfold cp Lib.compareInt;repeat' split<;>omega
theorem lF(a b:Int):a<b/\cp a b=-1\/a=b/\cp a b=0\/b<a/\cp a b=1:=by unfold cp Lib.compareInt;repeat' split<;>omega
theorem uC(a b c:Int):TR (cp a b) (cp b c) (cp a c):=by
 unfold TR;intro h1 h2;rcases lF a b with h|h|h<;>rcases lF b c with h' | h' | h'<;>rcases lF a c with h3|h3|h3<;>omega
theorem fQ{a b:Int}:cp a b=0↔a=b:=by unfold cp Lib.compareInt;repeat' split<;>omega
theorem sf:∀a b:List UInt8,-1<=Lib.compareBytes a b/\Lib.compareBytes a b<=1
 | [],[]=>by simp[Lib.compareBytes]
 | [],_::_=>by simp[Lib.compareBytes]
 | _::_,[]=>by simp[Lib.compareBytes]
 | a::a2,b::b2=>by
  rw[Lib.compareBytes]
  repeat' split
  ·omega
  ·omega
  ·exact sf a2 b2
theorem iC(a b:UInt8)(l m:List UInt8):Lib.compareBytes (a::l) (b::m)=lT (cp (a.toNat:Int) (b.toNat:Int)) (Lib.compareBytes l m):=by
 rw[Lib.compareBytes];unfold cp Lib.compareInt lT;have e1:a<b↔a.toNat<b.toNat:=MZ;have e2:b<a↔b.toNat<a.toNat:=MZ;rcases Nk a.toNat b.toNat with h|h|h
 ·rw[LZ (e1.2 h),LZ (show(a.toNat:Int)<b.toNat by omega)];rfl
 ·rw[LU (by rw[e1];omega),LU (by rw[e2];omega),LU (show ¬(a.toNat:Int)<b.toNat by omega),LU (show ¬(a.toNat:Int)>b.toNat by omega)];rfl
 ·rw[LU (by rw[e1];omega),LZ (e2.2 h),LU (show ¬(a.toNat:Int)<b.toNat by omega),LZ (show(a.toNat:Int)>b.toNat by omega)];rfl
theorem jR{c d c' d':Int}(h:c'=-c)(h':d'=-d):lT c' d'=-lT c d:=by unfold lT;repeat' split<;>omega
theorem uD{c d:Int}(h:-1<=c/\c<=1)(h':-1<=d/\d<=1):-1<=lT c d/\lT c d<=1:=by unfold lT;split<;>omega
theorem kY{c d:Int}:lT c d=0↔c=0/\d=0:=by unfold lT;split<;>omega
theorem qQ:∀a b:List UInt8,Lib.compareBytes b a=-Lib.compareBytes a b
 | [],[]=>by simp[Lib.compareBytes]
 | [],_::_=>by simp[Lib.compareBytes]
 | _::_,[]=>by simp[Lib.compareBytes]
 | a::a2,b::b2=>by rw[iC,iC];exact jR (nY _ _) (qQ a2 b2)
theorem xK:∀a b c:List UInt8,TR (Lib.compareBytes a b) (Lib.compareBytes b c) (Lib.compareBytes a c)
 | [],[],[]=>by simp[Lib.compareBytes,TR]
 | [],[],_::_=>by simp[Lib.compareBytes,TR]
 | [],_::_,[]=>by simp[Lib.compareBytes,TR]
 | [],_::_,_::_=>by simp[Lib.compareBytes,TR]
 | _::_,[],[]=>by simp[Lib.compareBytes,TR]
 | _::_,[],_::_=>by simp[Lib.compareBytes,TR]
 | _::_,_::_,[]=>by simp[Lib.compareBytes,TR]
 | a::a2,b::b2,c::c2=>by
  rw[iC,iC,iC];exact(uC _ _ _).lx (xK a2 b2 c2)
theorem qR:∀a b:List UInt8,Lib.compareBytes a b=0↔a=b
 | [],[]=>by simp[Lib.compareBytes]
 | [],_::_=>by simp[Lib.compareBytes]
 | _::_,[]=>by simp[Lib.compareBytes]
 | a::a2,b::b2=>by
  rw[iC,kY,fQ,qR a2 b2];constructor
  ·rintro⟨h1,rfl⟩;rw[show a=b from Mr.1 (by omega)]
  ·intro h;injection h with h1 h2
   exact⟨by rw[h1],h2⟩
theorem iD{a b:ByteArray}:bm a b=0↔a=b:=by
 unfold bm;rw[qR];exact⟨fun h=>OE h,fun h=>by rw[h]⟩
structure Ed(x:aC):Prop where
 rng:∀y,-1<=aU x y/\aU x y<=1
 anti:∀y,aU y x=-aU x y
 tr:∀y z,TR (aU x y) (aU y z) (aU x z)
structure JZ(l:List aC):Prop where
 rng:∀m,-1<=cv l m/\cv l m<=1
 anti:∀m,cv m l=-cv l m
 tr:∀m n,TR (cv l m) (cv m n) (cv l n)
structure Ja(l:List bf):Prop where
 rng:∀m,-1<=cK l m/\cK l m<=1
 anti:∀m,cK m l=-cK l m
 tr:∀m n,TR (cK l m) (cK m n) (cK l n)
theorem iU(f g:bf):CW f g=lT (bm f.s g.s) (aU f.v g.v):=by rw[uB];rfl
theorem gB(x y:aC)(r s:List aC):cv (x::r) (y::s)=lT (aU x y) (cv r s):=by rw[cv];rfl
theorem gC(x y:bf)(r s:List bf):cK (x::r) (y::s)=lT (CW x y) (cK r s):=by rw[cK];rfl
theorem It:∀l:List aC,(∀x∈l,Ed x)->JZ l:=by
 intro l
 induction l with
 | nil=>
  intro _;refine⟨fun m=>?_,fun m=>?_,fun m n=>?_⟩
  ·cases m<;>simp[cv]
  ·cases m<;>simp[cv]
  ·cases m<;>cases n<;>simp[cv,TR]
 | cons x r ih=>
  intro h;have hx:=h x (by simp);have hr:=ih fun y hy=>h y (by simp[hy]);refine⟨fun m=>?_,fun m=>?_,fun m n=>?_⟩
  ·cases m with
   | nil=>simp[cv]
   | cons y s=>rw[gB];exact uD (hx.rng y) (hr.rng s)
  ·cases m with
   | nil=>simp[cv]
   | cons y s=>rw[gB,gB];exact jR (hx.anti y) (hr.anti s)
  ·cases m with
   | nil=>cases n<;>simp[cv,TR]
   | cons y s=>
    cases n with
    | nil=>simp[cv,TR]
    | cons z t=>
     rw[gB,gB,gB];exact(hx.tr y z).lx (hr.tr s t)
theorem qS(a b:ByteArray):-1<=bm a b/\bm a b<=1:=sf _ _
theorem gD(a b:ByteArray):bm b a=-bm a b:=qQ _ _
theorem mv(a b c:ByteArray):TR (bm a b) (bm b c) (bm a c):=xK _ _ _
theorem Jb:∀l:List bf,(∀f∈l,Ed f.v)->Ja l:=by
 intro l
 induction l with
 | nil=>
  intro _;refine⟨fun m=>?_,fun m=>?_,fun m n=>?_⟩
  ·cases m<;>simp[cK]
  ·cases m<;>simp[cK]
  ·cases m<;>cases n<;>simp[cK,TR]
 | cons x r ih=>
  intro h;have hx:=h x (by simp);have hr:=ih fun y hy=>h y (by simp[hy]);refine⟨fun m=>?_,fun m=>?_,fun m n=>?_⟩
  ·cases m with
   | nil=>simp[cK]
   | cons y s=>rw[gC,iU];exact uD (uD (qS _ _) (hx.rng y.v)) (hr.rng s)
  ·cases m with
   | nil=>simp[cK]
   | cons y s=>rw[gC,gC,iU,iU];exact jR (jR (gD _ _) (hx.anti y.v)) (hr.anti s)
  ·cases m with
   | nil=>cases n<;>simp[cK,TR]
   | cons y s=>
    cases n with
    | nil=>simp[cK,TR]
    | cons z t=>
     rw[gC,gC,gC,iU,iU,iU];exact((mv _ _ _).lx (hx.tr y.v z.v)).lx (hr.tr s t)
def qT(x y:aC):Int:=if x.k=3\/x.k=9\/x.k=10 then cp x.n y.n else if x.k=4\/x.k=7\/x.k=8 then bm x.t y.t else if x.k=6 then cv x.l y.l else if x.k=5 then cK x.d y.d else 0
theorem mE{x y:aC}(h:x.k=y.k):aU x y=qT x y:=by rw[gh,LU (by simpa using h)];rfl
theorem GY:∀x,Ed x:=by
 intro x
 induction x using aC.ind with
 | h k n t l d ihl ihd=>
 have hL:=It l ihl;have hD:=Jb d ihd
 have rK:∀y,-1<=qT (.mk k n t l d) y/\qT (.mk k n t l d) y<=1:=by
  intro y;unfold qT;split
  ·exact xJ _ _
  ·split
   ·exact qS _ _
   ·split
    ·exact hL.rng y.l
    ·split
     ·exact hD.rng y.d
     ·omega
 have aK:∀y,y.k=k->qT y (.mk k n t l d)=-qT (.mk k n t l d) y:=by
  intro y hy;unfold qT;rw[hy];simp only[show(aC.mk k n t l d).k=k from rfl];split
  ·exact nY _ _
  ·split
   ·exact gD _ _
   ·split
    ·exact hL.anti y.l
    ·split
     ·exact hD.anti y.d
     ·rfl
 have tK:∀y z,y.k=k->TR (qT (.mk k n t l d) y) (qT y z) (qT (.mk k n t l d) z):=by
  intro y z hy;unfold qT;rw[hy];simp only[show(aC.mk k n t l d).k=k from rfl];split
  ·exact uC _ _ _
  ·split
   ·exact mv _ _ _
   ·split
    ·exact hL.tr y.l z.l
    ·split
     ·exact hD.tr y.d z.d
     ·simp[TR]
 refine⟨fun y=>?_,fun y=>?_,fun y z=>?_⟩
 ·by_cases h:(aC.mk k n t l d).k=y.k
  ·rw[mE h];exact rK y
  ·rw[cU h];exact xJ _ _
 ·by_cases h:(aC.mk k n t l d).k=y.k
  ·rw[mE h,mE h.symm];exact aK y h.symm
  ·rw[cU h,cU (fun e=>h e.symm)];exact nY _ _
 ·intro h1 h2;have hk:(aC.mk k n t l d).k=k:=rfl
  have ek:cp k y.k<=0:=by
   by_cases h:k=y.k
   ·rw[fQ.2 h];omega
   ·rw[cU (by rw[hk];exact h)] at h1;exact h1
  have ek2:cp y.k z.k<=0:=by
   by_cases h:y.k=z.k
   ·rw[fQ.2 h];omega
   ·rw[cU h] at h2;exact h2
  have ek3:=uC k y.k z.k ek ek2;by_cases h:k=y.k
  ·by_cases h':y.k=z.k
   ·rw[mE (y:=y) (by rw[hk];exact h)] at h1 ⊢;rw[mE h'] at h2 ⊢;rw[mE (y:=z) (by rw[hk];omega)];exact tK y z h.symm h1 h2
   ·have h3:k≠z.k:=by omega
    rw[cU h'] at h2 ⊢;rw[cU (y:=z) (by rw[hk];exact h3),hk,<-h];have:=fun e=>h3 (fQ.1 e);rw[<-h] at h2;refine⟨h2,fun e=>absurd e this,fun e=>absurd e.2 this⟩
  ·have h3:cp k y.k≠0:=fun e=>h (fQ.1 e);have h4:cp k z.k≠0:=fun e=>h3 (ek3.2.1 e).1;have e1:aU (.mk k n t l d) y=cp k y.k:=cU (by rw[hk];exact h);have e2:aU (.mk k n t l d) z=cp k z.k:=cU (by rw[hk];exact fun e=>h4 (fQ.2 e));rw[e1,e2];exact⟨ek3.1,fun e=>absurd e h4,fun e=>absurd e.1 h3⟩
theorem lG(x y:aC):aU y x=-aU x y:=(GY x).anti y
theorem GF(x y z:aC):TR (aU x y) (aU y z) (aU x z):=(GY x).tr y z
theorem CX(x:aC):aU x x=0:=by have:=lG x x;omega
theorem GG{l:List aC}:∀{m:List aC},(∀x∈l,∀y,aU x y=0->y∈m->x=y)->cv l m=0->l=m:=by
 induction l with
 | nil=>intro m _ h;cases m with
  | nil=>rfl
  | cons y s=>simp[cv] at h
 | cons x r ih=>
  intro m hx h;cases m with
  | nil=>simp[cv] at h
  | cons y s=>
   rw[gB,kY] at h;rw[hx x (by simp) y h.1 (by simp),ih (fun a ha b hb hm=>hx a (by simp[ha]) b hb (by simp[hm])) h.2]
theorem GH{l:List bf}:∀{m:List bf},(∀x∈l,∀y,aU x.v y.v=0->y∈m->x.v=y.v)->cK l m=0->l=m:=by
 induction l with
 | nil=>intro m _ h;cases m with
  | nil=>rfl
  | cons y s=>simp[cK] at h
 | cons x r ih=>
  intro m hx h;cases m with
  | nil=>simp[cK] at h
  | cons y s=>
   rw[gC,kY,iU,kY] at h;have e1:x.s=y.s:=iD.1 h.1.1;have e2:x.v=y.v:=hx x (by simp) y h.1.2 (by simp);have e:x=y:=by cases x;cases y;simp only[bf.s,bf.v] at e1 e2;rw[e1,e2]
   rw[e,ih (fun a ha b hb hm=>hx a (by simp[ha]) b hb (by simp[hm])) h.2]
theorem sg{nm:ByteArray->Bool}:∀x y:aC,av nm x->av nm y->aU x y=0->x=y:=by
 intro x
 induction x using aC.ind with
 | h k n t l d ihl ihd=>
 intro y hx hy h;obtain⟨hx0,hx1,hx2,_⟩:=(aZ nm _).1 hx;obtain⟨hy0,hy1,hy2,_⟩:=(aZ nm _).1 hy
 have hk:k=y.k:=by
  by_cases e:(aC.mk k n t l d).k=y.k
  ·exact e
  ·rw[cU e] at h;exact absurd (fQ.1 h) e
 cases y with
 | mk k' n' t' l' d'=>
 simp only[aC.k,aC.n,aC.t,aC.l,aC.d] at*;subst hk;have h':(if k=3\/k=9\/k=10 then cp n n' else if k=4\/k=7\/k=8 then bm t t' else if k=6 then cv l l' else if k=5 then cK d d' else 0)=0:=(mE (x:=.mk k n t l d) (y:=.mk k n' t' l' d') rfl).symm.trans h;have nil:∀{α:Type} {a b:List α},a.length=0->b.length=0->a=b:=fun ha hb=>by rw[LO ha,LO hb]
 have emp:∀{a b:ByteArray},a.size=0->b.size=0->a=b:=fun {a b} ha hb=>OE (by
  rw[LO (l:=a.data.toList) (by simpa using ha),LO (l:=b.data.toList) (by simpa using hb)])
 obtain⟨a1,a2,a3,a4,_⟩:=hx0;obtain⟨b1,b2,b3,b4,_⟩:=hy0;split at h'
 ·rename_i hi
  rw[fQ.1 h',emp (a:=t) (b:=t') (by omega) (by omega),nil (a:=l) (b:=l') (by omega) (by omega),nil (a:=d) (b:=d') (by omega) (by omega)]
 ·split at h'
  ·rename_i hi ht
   rw[show n=n' by omega,iD.1 h',nil (a:=l) (b:=l') (by omega) (by omega),nil (a:=d) (b:=d') (by omega) (by omega)]
  ·split at h'
   ·rename_i hi ht h6
    rw[show n=n' by omega,emp (a:=t) (b:=t') (by omega) (by omega),nil (a:=d) (b:=d') (by omega) (by omega),
     GG (fun a ha b hb hm=>ihl a ha b (hx1 a ha) (hy1 b hm) hb) h']
   ·split at h'
    ·rename_i hi ht h6 h5
     rw[show n=n' by omega,emp (a:=t) (b:=t') (by omega) (by omega),nil (a:=l) (b:=l') (by omega) (by omega),
      GH (fun a ha b hb hm=>ihd a ha b.v (hx2 a ha) (hy2 b hm) hb) h']
    ·rw[show n=n' by omega,emp (a:=t) (b:=t') (by omega) (by omega),nil (a:=l) (b:=l') (by omega) (by omega),nil (a:=d) (b:=d') (by omega) (by omega)]
structure sj{α:Type}(cm:α->α->Int)(V:α->Prop):Prop where
 anti:∀x y,cm y x=-cm x y
 tr:∀x y z,TR (cm x y) (cm y z) (cm x z)
 eq:∀x y,V x->V y->cm x y=0->x=y
section
variable {α:Type} {cm:α->α->Int} {V:α->Prop}
theorem sj.KN(H:sj cm V)(x:α):cm x x=0:=by have:=H.anti x x;omega
def dj(cm:α->α->Int)(a:α)(l:List (α×α)):Prop:=∃s∈l,cm s.1 a<=0/\cm a s.2<0
theorem jh(a:α):¬dj cm a []:=by rintro⟨s,hs,_⟩;simp at hs
theorem dq{a:α}{s:α×α}{l:List (α×α)}:dj cm a (s::l)↔(cm s.1 a<=0/\cm a s.2<0)\/dj cm a l:=by
 constructor
 ·rintro⟨t,ht,h⟩;rcases Li.1 ht with rfl|ht
  ·exact .inl h
  ·exact .inr ⟨t,ht,h⟩
 ·rintro(h|⟨t,ht,h⟩)
  ·exact⟨s,by simp,h⟩
  ·exact⟨t,by simp[ht],h⟩
theorem gM{a:α}{l m:List (α×α)}:dj cm a (l++m)↔dj cm a l\/dj cm a m:=by
 induction l with
 | nil=>simp only[MC];exact⟨.inr,fun h=>h.resolve_left (jh a)⟩
 | cons s r ih=>rw[Lj,dq,dq,ih,or_assoc]
theorem mw{a:α}{s:α×α}:dj cm a [s]↔(cm s.1 a<=0/\cm a s.2<0):=by rw[dq];exact⟨fun h=>h.resolve_right (jh a),.inl⟩
theorem xL{a:α}{l m:List (α×α)}(h:l.Perm m):dj cm a l↔dj cm a m:=by
 constructor
 ·rintro⟨s,hs,k⟩;exact⟨s,h.subset hs,k⟩
 ·rintro⟨s,hs,k⟩;exact⟨s,h.symm.subset hs,k⟩
structure NF(cm:α->α->Int)(V:α->Prop)(l:List (α×α)):Prop where
 ne:∀s∈l,cm s.1 s.2<0/\V s.1/\V s.2
 ord:l.Pairwise fun s t=>cm s.2 t.1<0
theorem NF.nil:NF cm V []:=⟨fun s hs=>by simp at hs,.nil⟩
theorem NF.tail{s:α×α}{l:List (α×α)}(h:NF cm V (s::l)):NF cm V l:=⟨fun t ht=>h.ne t (by simp[ht]),List.Pairwise.of_cons h.ord⟩
theorem NF.head{s:α×α}{l:List (α×α)}(h:NF cm V (s::l)){t:α×α}(ht:t∈l):cm s.2 t.1<0:=Pl h.ord ht
theorem CY(H:sj cm V):∀{l m:List (α×α)},NF cm V l->NF cm V m->(∀a,V a->(dj cm a l↔dj cm a m))->l=m:=by
 intro l
 induction l with
 | nil=>
  intro m _ hm h;cases m with
  | nil=>rfl
  | cons t q=>
   have ht:=hm.ne t (by simp);exact absurd ((h t.1 ht.2.1).2 (dq.2 (.inl ⟨by rw[H.KN];omega,ht.1⟩))) (jh _)
 | cons s r ih=>
  intro m hl hm h;cases m with
  | nil=>
   have hs:=hl.ne s (by simp);exact absurd ((h s.1 hs.2.1).1 (dq.2 (.inl ⟨by rw[H.KN];omega,hs.1⟩))) (jh _)
  | cons t q=>
   have hs:=hl.ne s (by simp);have ht:=hm.ne t (by simp)
   have low:∀{s t:α×α} {r q:List (α×α)},NF cm V (s::r)->NF cm V (t::q)->(dj cm s.1 (s::r)->dj cm s.1 (t::q))->cm t.1 s.1<=0:=by
    intro s t r q hl hm h;have hs:=hl.ne s (by simp);rcases dq.1 (h (dq.2 (.inl ⟨by rw[H.KN];omega,hs.1⟩))) with k|⟨u,hu,k⟩
    ·exact k.1
    ·have h1:=hm.head hu;have h2:=(hm.ne t (by simp)).1;have h3:=H.tr t.1 t.2 u.1 (by omega) (by omega);have h4:=H.tr t.1 u.1 s.1 (by omega) (by omega);omega
   have e1:s.1=t.1:=by
    have a1:=low hl hm (h s.1 hs.2.1).1;have a2:=low hm hl (h t.1 ht.2.1).2;have:=H.anti s.1 t.1;exact H.eq _ _ hs.2.1 ht.2.1 (by omega)
   have up:∀{s t:α×α} {r q:List (α×α)},s.1=t.1->NF cm V (s::r)->(dj cm s.2 (t::q)->dj cm s.2 (s::r))->¬cm s.2 t.2<0:=by
    intro s t r q e hl h hlt;have hs:=hl.ne s (by simp);have:=h (dq.2 (.inl ⟨by rw[<-e];omega,hlt⟩));rcases dq.1 this with k|⟨u,hu,k⟩
    ·have:=H.KN s.2;omega
    ·have h1:=hl.head hu;have:=H.anti s.2 u.1;omega
   have e2:s.2=t.2:=by
    have a1:=up e1 hl (h s.2 hs.2.2).2;have a2:=up e1.symm hm (h t.2 ht.2.2).1;have:=H.anti s.2 t.2;exact H.eq _ _ hs.2.2 ht.2.2 (by omega)
   obtain rfl:s=t:=Prod.ext e1 e2
   congr 1
   refine ih hl.tail hm.tail fun a ha=>?_
   have half:∀{r q:List (α×α)},NF cm V (s::r)->(dj cm a (s::r)->dj cm a (s::q))->dj cm a r->dj cm a q:=by
    intro r q hl h hr;rcases dq.1 (h (dq.2 (.inr hr))) with k|k
    ·obtain⟨u,hu,k2⟩:=hr;have h1:=hl.head hu;have h2:=H.tr s.2 u.1 a (by omega) k2.1;have:=H.anti a s.2;omega
    ·exact k
   exact⟨half hl (h a ha).1,half hm (h a ha).2⟩
def dF(cm:α->α->Int)(c:List (α×α))(s:α×α):List (α×α):=
 match c.getLast? with
 | none=>c++[s]
 | some l=>if cm l.2 s.1<0 then c++[s] else if cm l.2 s.2<0 then c.dropLast++[(l.1,s.2)] else c
def fe(cm:α->α->Int)(l:List (α×α)):List (α×α):=l.foldl (dF cm) []
theorem fR(l:List (α×α))(s:α×α):fe cm (l++[s])=dF cm (fe cm l) s:=by unfold fe;rw[Pu];rfl
structure MI(cm:α->α->Int)(V:α->Prop)(P c:List (α×α)):Prop where
 nf:NF cm V c
 mem:∀a,dj cm a c↔dj cm a P
 len:c.length<=P.length
 low:∀l∈c,∃p∈P,l.1=p.1
theorem oq{β:Type}{R:β->β->Prop}{l:List β}{a:β}:(l++[a]).Pairwise R↔l.Pairwise R/\∀x∈l,R x a:=by
 rw[Le];constructor
 ·rintro⟨h1,_,h3⟩;exact⟨h1,fun x hx=>h3 x hx a (by simp)⟩
 ·rintro⟨h1,h2⟩;exact⟨h1,by simp,fun x hx y hy=>by simp at hy;subst hy;exact h2 x hx⟩
theorem MI.step(H:sj cm V){P c:List (α×α)}{s:α×α}(h:MI cm V P c)(hs:cm s.1 s.2<0/\V s.1/\V s.2)(hlo:∀p∈P,cm p.1 s.1<=0):MI cm V (P++[s]) (dF cm c s):=by
 rcases NI c with rfl|⟨d,l,rfl⟩
 ·have e:dF cm [] s=[s]:=rfl;rw[e];refine⟨⟨fun t ht=>by simp at ht;subst ht;exact hs,by simp⟩,fun a=>?_,by simp,fun t ht=>⟨s,by simp,by simp at ht;rw[ht]⟩⟩;rw[gM];exact⟨.inr,fun k=>k.resolve_left fun hp=>jh a ((h.mem a).2 hp)⟩
 ·rw[My] at h ⊢;have hlen:=h.len;simp only[LM,Ll,Mp] at hlen;have hl:=h.nf.ne l (by simp);obtain⟨hd,hdl⟩:=oq.1 h.nf.ord
  have hls:cm l.1 s.1<=0:=by
   obtain⟨p,hp,e⟩:=h.low l (by simp);rw[e];exact hlo p hp
  have e0:(d++[l]).getLast?=some l:=by simp
  unfold dF;rw[e0];simp only;by_cases h1:cm l.2 s.1<0
  ·rw[LZ h1];refine⟨⟨fun t ht=>?_,oq.2 ⟨h.nf.ord,fun t ht=>?_⟩⟩,fun a=>?_,by simp;omega,fun t ht=>?_⟩
   ·rcases LY.1 ht with ht|ht
    ·exact h.nf.ne t ht
    ·simp at ht;subst ht;exact hs
   ·rcases LY.1 ht with ht|ht
    ·have a1:=hdl t ht;have a2:=H.tr t.2 l.1 l.2 (by omega) (by omega);have a3:=H.tr t.2 l.2 s.1 (by omega) (by omega);omega
    ·simp at ht;subst ht;exact h1
   ·rw[gM (l:=d++[l]),gM (l:=P),h.mem]
   ·rcases LY.1 ht with ht|ht
    ·obtain⟨p,hp,e⟩:=h.low t ht;exact⟨p,by simp[hp],e⟩
    ·simp at ht;subst ht;exact⟨t,by simp,rfl⟩
  ·rw[LU h1];by_cases h2:cm l.2 s.2<0
   ·rw[LZ h2,PY];refine⟨⟨fun t ht=>?_,oq.2 ⟨hd,hdl⟩⟩,fun a=>?_,by simp;omega,fun t ht=>?_⟩
    ·rcases LY.1 ht with ht|ht
     ·exact h.nf.ne t (by simp[ht])
     ·simp at ht;subst ht;have:=H.tr l.1 l.2 s.2 (by omega) (by omega);exact⟨by show cm l.1 s.2<0;omega,hl.2.1,hs.2.2⟩
    ·rw[gM (l:=d),gM (l:=P),<-h.mem,gM (l:=d),or_assoc];apply or_congr Iff.rfl;rw[mw,mw,mw];simp only;constructor
     ·rintro⟨k1,k2⟩;by_cases k3:cm a l.2<0
      ·exact .inl ⟨k1,k3⟩
      ·have:=H.anti a l.2;have:=H.anti l.2 s.1;have:=H.tr s.1 l.2 a (by omega) (by omega);exact .inr ⟨by omega,k2⟩
     ·rintro(⟨k1,k2⟩|⟨k1,k2⟩)
      ·have:=H.tr a l.2 s.2 (by omega) (by omega);exact⟨k1,by omega⟩
      ·have:=H.tr l.1 s.1 a hls k1;exact⟨by omega,k2⟩
    ·rcases LY.1 ht with ht|ht
     ·obtain⟨p,hp,e⟩:=h.low t (by simp[ht]);exact⟨p,by simp[hp],e⟩
     ·simp at ht;subst ht;obtain⟨p,hp,e⟩:=h.low l (by simp);exact⟨p,by simp[hp],e⟩
   ·rw[LU h2];refine⟨h.nf,fun a=>?_,by simp;omega,fun t ht=>?_⟩
    ·rw[gM (l:=P),<-h.mem];refine⟨.inl,fun k=>k.elim id fun k=>?_⟩;rw[mw] at k;rw[gM,mw];have:=H.tr l.1 s.1 a hls k.1;have:=H.anti s.2 l.2;have:=H.tr a s.2 l.2 (by omega) (by omega);exact .inr ⟨by omega,by omega⟩
    ·obtain⟨p,hp,e⟩:=h.low t ht;exact⟨p,by simp[hp],e⟩
theorem sm(H:sj cm V){l:List (α×α)}(hne:∀s∈l,cm s.1 s.2<0/\V s.1/\V s.2)(hs:l.Pairwise fun s t=>cm s.1 t.1<=0):MI cm V l (fe cm l):=by
 have key:∀i,i<=l.length->MI cm V (l.take i) (fe cm (l.take i)):=by
  intro i
  induction i with
  | zero=>intro _;exact⟨NF.nil,fun a=>Iff.rfl,by simp[fe],fun t ht=>by simp[fe] at ht⟩
  | succ i ih=>
   intro hi;have hx:l[i]?=some l[i]:=LI (by omega);rw[take_snoc' hx,fR];refine(ih (by omega)).step H (hne _ (Mz _)) fun p hp=>?_
   have h2:(l.take i++[l[i]]).Pairwise fun s t=>cm s.1 t.1<=0:=by
    rw[<-take_snoc' hx];exact hs.sublist (List.take_sublist _ _)
   exact(oq.1 h2).2 p hp
 have:=key l.length (qL)
 rwa [PM] at this
theorem CZ(c:List (α×α))(s:α×α):(dF cm c s).length<=c.length+1:=by
 unfold dF;split
 ·simp
 ·split
  ·simp
  ·split
   ·simp
   ·omega
theorem zU(l:List (α×α)):(fe cm l).length<=l.length:=by
 have:∀c:List (α×α),(l.foldl (dF cm) c).length<=c.length+l.length:=by
  induction l with
  | nil=>intro c;simp
  | cons s r ih=>
   intro c;have h1:=ih (dF cm c s);have h2:=CZ (cm:=cm) c s;simp only[List.foldl_cons,Ll];omega
 simpa[fe] using this []
end
abbrev cA:=aC×Bool
def xS(x y:Bool):Int:=if x=y then 0 else if y then -1 else 1
def ae(a b:cA):Int:=lT (aU a.1 b.1) (xS a.2 b.2)
def iy(a:cA):Prop:=aO a.1=true
theorem Ee(x y:Bool):xS y x=-xS x y:=by cases x<;>cases y<;>decide
theorem Hq(x y z:Bool):TR (xS x y) (xS y z) (xS x z):=by cases x<;>cases y<;>cases z<;>(unfold TR;decide)
theorem Ef{x y:Bool}:xS x y=0↔x=y:=by cases x<;>cases y<;>decide
theorem ji{x:aC}(h:aO x=true):x.size<=1024/\x.Ju<=16/\av aN x:=by
 unfold aO at h;simp only[ME,Mg] at h;exact⟨h.1.1,h.1.2,eO.1 h.2⟩
theorem Ca{x:aC}(h1:x.size<=1024)(h2:x.Ju<=16)(h3:av aN x):aO x=true:=by
 unfold aO;rw[LN h1,LN h2,cX h3];rfl
theorem cO:sj ae iy:=by
 refine⟨fun x y=>jR (lG _ _) (Ee _ _),fun x y z=>TR.lx (GF _ _ _) (Hq _ _ _),fun x y hx hy h=>?_⟩;have h':=kY.1 h;exact Prod.ext (sg (nm:=aN) x.1 y.1 (ji hx).2.2 (ji hy).2.2 h'.1) (Ef.1 h'.2)
def eL:aC:=.mk 1 0 empty [] []
def ff:aC:=.mk 11 0 empty [] []
theorem qU{k:Int}(hk:k=1\/k=11):aO (.mk k 0 empty [] [])=true:=by
 refine Ca ?_ ?_ ?_
 ·rw[fm];unfold aC.parts;rw[LU (by show ¬k=6;omega),LU (by show ¬k=5;omega)];simp[bp]
 ·rw[fV];unfold aC.parts;rw[LU (by show ¬k=6;omega),LU (by show ¬k=5;omega)];simp[bA]
 ·refine(aZ _ _).2 ⟨?_,by simp[aC.l],by simp[aC.d],by simp[aC.d,iF]⟩;rcases hk with rfl|rfl<;>simp[eN,aC.k,aC.n,aC.t,aC.l,aC.d]
theorem iV{x:aC}(h:aO x=true):1<=x.k/\x.k<=11:=by
 have:=((aZ _ _).1 (ji h).2.2).1;unfold eN at this;omega
theorem Hr{a:cA}(h:iy a):ae (eL,false) a<=0:=by
 have hk:=iV h;unfold ae lT;by_cases h1:a.1.k=1
 ·have:aU eL a.1=0:=mD (by rw[h1];rfl) (by decide) (by decide) (by decide) (by decide) (by decide) (by decide) (by decide) (by decide);rw[this];simp;unfold xS;split
  ·omega
  ·rename_i hne
   cases hb:a.2
   ·exact absurd hb.symm hne
   ·simp
 ·have:aU eL a.1=cp 1 a.1.k:=cU (by show(1:Int)≠a.1.k;omega);have h2:=lF 1 a.1.k;rw[this];split<;>omega
structure Iv where
 lo:aC
 hi:aC
 li:Bool
 hin:Bool
def Iv.sp(x:Iv):cA×cA:=((x.lo,!x.li),(x.hi,x.hin))
noncomputable def Iv.ne(x:Iv):Bool:=aO x.lo&&aO x.hi&&decide (ae x.sp.1 x.sp.2<0)
noncomputable def aT(l:List Iv):List (cA×cA):=(l.filter Iv.ne).map Iv.sp
def dr(s:cA×cA):Iv:=⟨s.1.1,s.2.1,!s.1.2,s.2.2⟩
theorem AX(s:cA×cA):(dr s).sp=s:=by
 obtain⟨⟨a,b⟩,c,d⟩:=s;simp[dr,Iv.sp]
theorem GI(x:Iv):dr x.sp=x:=by
 obtain⟨a,b,c,d⟩:=x;simp[dr,Iv.sp]
theorem AY{x:Iv}(h:x.ne=true):ae x.sp.1 x.sp.2<0/\iy x.sp.1/\iy x.sp.2:=by
 unfold Iv.ne at h;simp only[ME,Mg] at h;exact⟨h.2,h.1.1,h.1.2⟩
theorem Eg{s:cA×cA}(h:ae s.1 s.2<0/\iy s.1/\iy s.2):(dr s).ne=true:=by
 unfold Iv.ne;rw[AX];have h1:aO (dr s).lo=true:=h.2.1;have h2:aO (dr s).hi=true:=h.2.2;rw[h1,h2,LN h.1];rfl
theorem lH{l:List Iv}:∀s∈aT l,ae s.1 s.2<0/\iy s.1/\iy s.2:=by
 intro s hs;obtain⟨x,hx,rfl⟩:=MS.1 hs;exact AY (Nu.1 hx).2
theorem mF(l m:List Iv):aT (l++m)=aT l++aT m:=by simp[aT]
theorem io(l:List Iv)(x:Iv):aT (l++[x])=if x.ne then aT l++[x.sp] else aT l:=by
 rw[mF];cases h:x.ne<;>simp[aT,h]
theorem Cb{n:List (cA×cA)}(h:∀s∈n,ae s.1 s.2<0/\iy s.1/\iy s.2):aT (n.map dr)=n:=by
 induction n with
 | nil=>rfl
 | cons s r ih=>
  have e:aT ((s::r).map dr)=(dr s).sp::aT (r.map dr):=by
   simp[aT,Eg (h s (by simp))]
  rw[e,AX,ih fun t ht=>h t (by simp[ht])]
def fg(S:cA->Prop)(m:List (cA×cA)):Prop:=NF ae iy m/\∀a,dj ae a m↔S a
theorem fg.unique{S T:cA->Prop}{m n:List (cA×cA)}(h:fg S m)(k:fg T n)(e:∀a,iy a->(S a↔T a)):m=n:=
 CY cO h.1 k.1 fun a ha=>by rw[h.2,k.2];exact e a ha
theorem fC{a b:cA}(h:aU a.1 b.1=0):ae a b=xS a.2 b.2:=by unfold ae lT;rw[LU (by simpa using h)]
theorem mG{a b:cA}(h:aU a.1 b.1≠0):ae a b=aU a.1 b.1:=by unfold ae lT;rw[LZ h]
def eM(v:aC):Iv:=⟨v,v,true,true⟩
theorem Eh(v:aC):(eM v).ne=aO v:=by
 unfold Iv.ne
 have:ae (eM v).sp.1 (eM v).sp.2<0:=by
  rw[fC (a:=(eM v).sp.1) (b:=(eM v).sp.2) (CX v)];show xS false true<0;decide
 rw[LN this];show(aO v&&aO v&&true)=aO v;cases aO v<;>rfl
theorem nZ:aO eL=true:=qU (.inl rfl)
theorem nd:aO ff=true:=qU (.inr rfl)
def iq:Iv:=⟨eL,ff,true,true⟩
theorem qV:ae (eL,false) (ff,true)<0:=by
 rw[mG (a:=(eL,false)) (b:=(ff,true)) (by rw[cU (by decide)];decide)];show aU eL ff<0;rw[cU (by decide)];decide
theorem mH:fg (fun a=>dj ae a (aT [iq])) [((eL,false),(ff,true))]:=by
 have hne:iq.ne=true:=by
  unfold Iv.ne;rw[LN (show ae iq.sp.1 iq.sp.2<0 from qV)];show(aO eL&&aO ff&&true)=true;rw[nZ,nd];rfl
 have e:aT [iq]=[((eL,false),(ff,true))]:=by unfold aT;rw[List.filter_cons_of_pos hne];rfl
 refine⟨⟨fun s hs=>?_,by simp⟩,fun a=>by rw[e]⟩;simp at hs;subst hs;exact⟨qV,nZ,nd⟩
structure cL{α:Type}(cm:α->α->Int):Prop where
 anti:∀x y,cm y x=-cm x y
 tr:∀x y z,TR (cm x y) (cm y z) (cm x z)
section
variable {α:Type} (cm:α->α->Int)
def RT(x y:α×Nat):Prop:=cm x.1 y.1<0\/cm x.1 y.1=0/\x.2<y.2
variable {cm}
theorem RT.trans(H:cL cm){x y z:α×Nat}(h1:RT cm x y)(h2:RT cm y z):RT cm x z:=by
 unfold RT at*;have:=H.tr x.1 y.1 z.1 (by omega) (by omega);omega
def gE(l:List (α×Nat)):Prop:=l.Pairwise fun x y=>x.2<y.2
structure aR(cm:α->α->Int)(l S:List (α×Nat)):Prop where
 perm:S.Perm l
 ord:S.Pairwise (RT cm)
theorem aR.nil:aR cm ([]:List (α×Nat)) []:=⟨.nil,.nil⟩
theorem aR.one(x:α×Nat):aR cm [x] [x]:=⟨.refl _,by simp⟩
theorem aR.insert(H:cL cm){P S1 S2:List (α×Nat)}{x:α×Nat}(h:aR cm P (S1++S2))(ht:∀y∈P,y.2<x.2)(h2:∀y∈S2,cm x.1 y.1<0)(h1:∀y,S1.getLast?=some y->¬cm x.1 y.1<0):aR cm (P++[x]) (S1++x::S2):=by
 refine⟨?_,?_⟩
 ·have e1:(S1++x::S2).Perm (x::(S1++S2)):=PP;have e2:(x::(S1++S2)).Perm (x::P):=h.perm.cons x;have e3:(x::P).Perm (P++[x]):=(OS x P).symm;exact e1.trans (e2.trans e3)
 ·have ho:=h.ord;rw[Le] at ho ⊢;refine⟨ho.1,?_,?_⟩
  ·rw[Mi];exact⟨fun y hy=>.inl (h2 y hy),ho.2.1⟩
  ·intro y hy z hz;rcases Li.1 hz with rfl|hz
   ·have hyP:y∈P:=h.perm.subset (by simp[hy]);rcases NI S1 with rfl|⟨S,q,rfl⟩
    ·simp at hy
    ·have hq:¬cm z.1 q.1<0:=h1 q (by simp);have hqP:q∈P:=h.perm.subset (by simp)
     have hqz:RT cm q z:=by
      unfold RT;have:=H.anti z.1 q.1;have:=ht q hqP;omega
     simp only[My,LY,Og] at hy;rcases hy with hy|rfl
     ·have:RT cm y q:=by
       have h3:=ho.1;simp only[My] at h3;rw[Le] at h3;exact h3.2.2 y hy q (by simp)
      exact RT.trans H this hqz
     ·exact hqz
   ·exact ho.2.2 y hy z hz
def bd:Nat->List α->List (α×Nat)
 | _,[]=>[]
 | n,x::r=>(x,n)::bd (n+1) r
theorem kZ(l:List α):∀n,(bd n l).map Prod.fst=l:=by
 induction l with
 | nil=>intro n;rfl
 | cons x r ih=>intro n;simp[bd,ih]
theorem zV(l:List α):∀n,∀y∈bd n l,n<=y.2:=by
 induction l with
 | nil=>intro n y hy;simp[bd] at hy
 | cons x r ih=>
  intro n y hy;simp only[bd,Li] at hy;rcases hy with rfl|hy
  ·exact qL
  ·have:=ih (n+1) y hy;omega
theorem kd(l:List α):∀n,gE (bd n l):=by
 induction l with
 | nil=>intro n;simp[bd,gE]
 | cons x r ih=>
  intro n;simp only[bd,gE,Mi];exact⟨fun y hy=>by have:=zV r (n+1) y hy;show n<y.2;omega,ih (n+1)⟩
theorem fh(l:List α):∀n,(bd n l).length=l.length:=by
 induction l with
 | nil=>intro n;rfl
 | cons x r ih=>intro n;simp[bd,ih]
end
theorem xM{α:Type}{rec:α->List Value}{s:Nat}(hs:∀a,(rec a).length=s):∀(l:List α) (j:Nat) (a:α),j<l.length->aJ rec (l.set j a)=cF (aJ rec l) (j*s) (rec a):=by
 intro l
 induction l with
 | nil=>intro j a h;simp at h
 | cons x r ih=>
  intro j a h;have e:∀(y:α) (t:List α),aJ rec (y::t)=rec y++aJ rec t:=fun _ _=>rfl;have hl:=bP hs (x::r);have hlr:=bP hs r;simp only[Ll] at hl h;have hm:(j+1)*s<=(r.length+1)*s:=MU s (by omega);rw[Nn] at hm;rw[gA _ _ _ (by rw[hs,hl];omega),hs];cases j with
  | zero=>
   rw[List.set_cons_zero,e,e];simp[hs]
  | succ j=>
   have hm2:(j+1)*s<=r.length*s:=MU s (by omega);rw[Nn] at hm2;rw[List.set_cons_succ,e,e,ih j a (by omega),gA _ _ _ (by rw[hs,hlr];omega),hs,show(j+1)*s=s+j*s by rw[Nn];omega]
   have e1:(rec x++aJ rec r).take (s+j*s)=rec x++(aJ rec r).take (j*s):=by
    have:=Pe (l₁:=rec x) (l₂:=aJ rec r) (j*s)
    rwa [hs] at this
   have e2:(rec x++aJ rec r).drop (s+j*s+s)=(aJ rec r).drop (j*s+s):=by
    have:=OM (l₁:=rec x) (l₂:=aJ rec r) (j*s+s);rw[hs] at this;rw[show s+j*s+s=s+(j*s+s) by omega];exact this
   rw[e1,e2];simp only[Ld]
abbrev PC:=PV×Bool
abbrev PS:=PC×PC
abbrev PI:=(PV×PV)×(Bool×Bool)
def kf(p:PC):List Value:=bv p.1++[.bool p.2]
def dP(p:PS):List Value:=kf p.1++kf p.2
def ax(p:PI):List Value:=bv p.1.1++bv p.1.2++[.bool p.2.1,.bool p.2.2]
theorem bk(p:PC):(kf p).length=6:=rfl
theorem db(p:PS):(dP p).length=12:=rfl
theorem bR(p:PI):(ax p).length=12:=rfl
theorem kg(p:PS):∀u∈dP p,u.oneCell'=true:=by simp[dP,kf,bv,VC.list,Value.oneCell']
theorem fD(p:PI):∀u∈ax p,u.oneCell'=true:=by simp[ax,bv,VC.list,Value.oneCell']
def ia(p:PC):cA:=(p.1.2,p.2)
def al(p:PS):cA×cA:=(ia p.1,ia p.2)
def ar(p:PI):Iv:=⟨p.1.1.2,p.1.2.2,p.2.1,p.2.2⟩
def gU(p:PI):PS:=((p.1.1,!p.2.1),(p.1.2,p.2.2))
abbrev Cc(p:PC):Value:=.agg #[.int .i64 p.1.1.k,.int .i64 p.1.1.n,.string p.1.1.t,.slice p.1.1.LA p.1.1.ln p.1.1.lc,.slice p.1.1.DA p.1.1.dn p.1.1.dc,.bool p.2]
abbrev xN(p:PS):Value:=.agg #[.int .i64 p.1.1.1.k,.int .i64 p.1.1.1.n,.string p.1.1.1.t,.slice p.1.1.1.LA p.1.1.1.ln p.1.1.1.lc,.slice p.1.1.1.DA p.1.1.1.dn p.1.1.1.dc,.bool p.1.2,.int .i64 p.2.1.1.k,.int .i64 p.2.1.1.n,.string p.2.1.1.t,.slice p.2.1.1.LA p.2.1.1.ln p.2.1.1.lc,.slice p.2.1.1.DA p.2.1.1.dn p.2.1.1.dc,.bool p.2.2]
abbrev cR(p:PI):Value:=.agg #[.int .i64 p.1.1.1.k,.int .i64 p.1.1.1.n,.string p.1.1.1.t,.slice p.1.1.1.LA p.1.1.1.ln p.1.1.1.lc,.slice p.1.1.1.DA p.1.1.1.dn p.1.1.1.dc,.int .i64 p.1.2.1.k,.int .i64 p.1.2.1.n,.string p.1.2.1.t,.slice p.1.2.1.LA p.1.2.1.ln p.1.2.1.lc,.slice p.1.2.1.DA p.1.2.1.dn p.1.2.1.dc,.bool p.2.1,.bool p.2.2]
abbrev uE(p:PC):Array Value:=#[.int .i64 p.1.1.k,.int .i64 p.1.1.n,.string p.1.1.t,.slice p.1.1.LA p.1.1.ln p.1.1.lc,.slice p.1.1.DA p.1.1.dn p.1.1.dc,.bool p.2]
abbrev ib(p:PS):Array Value:=#[.int .i64 p.1.1.1.k,.int .i64 p.1.1.1.n,.string p.1.1.1.t,.slice p.1.1.1.LA p.1.1.1.ln p.1.1.1.lc,.slice p.1.1.1.DA p.1.1.1.dn p.1.1.1.dc,.bool p.1.2,.int .i64 p.2.1.1.k,.int .i64 p.2.1.1.n,.string p.2.1.1.t,.slice p.2.1.1.LA p.2.1.1.ln p.2.1.1.lc,.slice p.2.1.1.DA p.2.1.1.dn p.2.1.1.dc,.bool p.2.2]
abbrev aM(p:PI):Array Value:=#[.int .i64 p.1.1.1.k,.int .i64 p.1.1.1.n,.string p.1.1.1.t,.slice p.1.1.1.LA p.1.1.1.ln p.1.1.1.lc,.slice p.1.1.1.DA p.1.1.1.dn p.1.1.1.dc,.int .i64 p.1.2.1.k,.int .i64 p.1.2.1.n,.string p.1.2.1.t,.slice p.1.2.1.LA p.1.2.1.ln p.1.2.1.lc,.slice p.1.2.1.DA p.1.2.1.dn p.1.2.1.dc,.bool p.2.1,.bool p.2.2]
def Cd(w:World)(b off:Nat)(p:PC):Prop:=bS w b off p.1.1/\w.cell? ⟨b,off+5,none⟩=some (.bool p.2)
def xT(w:World)(b off:Nat)(p:PS):Prop:=Cd w b off p.1/\Cd w b (off+6) p.2
def cw(w:World)(b off:Nat)(p:PI):Prop:=bS w b off p.1.1.1/\bS w b (off+5) p.1.2.1/\w.cell? ⟨b,off+10,none⟩=some (.bool p.2.1)/\w.cell? ⟨b,off+11,none⟩=some (.bool p.2.2)
section
variable {w w':World} {b off:Nat}
theorem uF{p:PC}(h:∀(j:Nat) (v:Value),(kf p)[j]?=some v->w.cell? ⟨b,off+j,none⟩=some v):Cd w b off p:=
 ⟨⟨h 0 _ rfl,h 1 _ rfl,h 2 _ rfl,h 3 _ rfl,h 4 _ rfl⟩,h 5 _ rfl⟩
theorem zW{p:PS}(h:∀(j:Nat) (v:Value),(dP p)[j]?=some v->w.cell? ⟨b,off+j,none⟩=some v):xT w b off p:=
 ⟨⟨⟨h 0 _ rfl,h 1 _ rfl,h 2 _ rfl,h 3 _ rfl,h 4 _ rfl⟩,h 5 _ rfl⟩,⟨⟨h 6 _ rfl,h 7 _ rfl,h 8 _ rfl,h 9 _ rfl,h 10 _ rfl⟩,h 11 _ rfl⟩⟩
theorem qW{p:PI}(h:∀(j:Nat) (v:Value),(ax p)[j]?=some v->w.cell? ⟨b,off+j,none⟩=some v):cw w b off p:=
 ⟨⟨h 0 _ rfl,h 1 _ rfl,h 2 _ rfl,h 3 _ rfl,h 4 _ rfl⟩,⟨h 5 _ rfl,h 6 _ rfl,h 7 _ rfl,h 8 _ rfl,h 9 _ rfl⟩,h 10 _ rfl,h 11 _ rfl⟩
theorem Cd.Jr{t:TypeId}{p:PC}(h:aE w b t (uE p)):Cd w b 0 p:=uF fun j v hj=>by rw[LL,h.cell,<-Lk];exact hj
theorem xT.Jr{t:TypeId}{p:PS}(h:aE w b t (ib p)):xT w b 0 p:=zW fun j v hj=>by rw[LL,h.cell,<-Lk];exact hj
theorem cw.Jr{t:TypeId}{p:PI}(h:aE w b t (aM p)):cw w b 0 p:=qW fun j v hj=>by rw[LL,h.cell,<-Lk];exact hj
theorem Cd.keep{p:PC}(h:Cd w b off p)(hb:w'.heap[b]?=w.heap[b]?):Cd w' b off p:=⟨h.1.keep hb,(Me (w:=w) (a:=⟨b,off+5,none⟩) hb).trans h.2⟩
theorem xT.keep{p:PS}(h:xT w b off p)(hb:w'.heap[b]?=w.heap[b]?):xT w' b off p:=⟨h.1.keep hb,h.2.keep hb⟩
theorem cw.keep{p:PI}(h:cw w b off p)(hb:w'.heap[b]?=w.heap[b]?):cw w' b off p:=
 ⟨h.1.keep hb,h.2.1.keep hb,(Me (w:=w) (a:=⟨b,off+10,none⟩) hb).trans h.2.2.1,(Me (w:=w) (a:=⟨b,off+11,none⟩) hb).trans h.2.2.2⟩
end
def Hs(w:World)(p:PC):Prop:=RW w p.1.1 p.1.2
def xO(w:World)(p:PS):Prop:=Hs w p.1/\Hs w p.2
def iY(w:World)(p:PI):Prop:=RW w p.1.1.1 p.1.1.2/\RW w p.1.2.1 p.1.2.2
section
variable {w w':World}
theorem Hs.step{p:PC}(h:Hs w p)(hb:Below w.heap.size w w'):Hs w' p:=RV.step h hb
theorem xO.step{p:PS}(h:xO w p)(hb:Below w.heap.size w w'):xO w' p:=⟨h.1.step hb,h.2.step hb⟩
theorem iY.step{p:PI}(h:iY w p)(hb:Below w.heap.size w w'):iY w' p:=⟨h.1.step hb,h.2.step hb⟩
theorem iY.span{p:PI}(h:iY w p):xO w (gU p):=⟨h.1,h.2⟩
structure SS(w:World)(A:Option Addr)(n c:Nat)(xs:List PS):Prop where
 sr:SR 12 dP w A n c xs
 sz:n*176<=aF
 ok:∀x∈xs,xO w x
structure SI(w:World)(A:Option Addr)(n c:Nat)(xs:List PI):Prop where
 sr:SR 12 ax w A n c xs
 sz:n*168<=aF
 ok:∀x∈xs,iY w x
variable {A:Option Addr} {n c:Nat}
theorem SI.step{xs:List PI}(h:SI w A n c xs)(hb:Below w.heap.size w w'):SI w' A n c xs:=⟨h.sr.step hb,h.sz,fun x hx=>(h.ok x hx).step hb⟩
theorem SS.at{xs:List PS}(h:SS w A n c xs){i:Nat}{p:PS}(hi:xs[i]?=some p):∃b off,A=some ⟨b,off,none⟩/\b<w.heap.size/\xT w b (off+i*12) p/\xO w p:=by
 have hn:0<n:=by have:=(LJ.1 hi).1;have:=h.sr.ln;omega
 obtain⟨b,off,e,hb,hel⟩:=h.sr.el hn;exact⟨b,off,e,hb,zW fun j v hj=>hel i p hi j v hj,h.ok p (LP hi)⟩
theorem SI.at{xs:List PI}(h:SI w A n c xs){i:Nat}{p:PI}(hi:xs[i]?=some p):∃b off,A=some ⟨b,off,none⟩/\b<w.heap.size/\cw w b (off+i*12) p/\iY w p:=by
 have hn:0<n:=by have:=(LJ.1 hi).1;have:=h.sr.ln;omega
 obtain⟨b,off,e,hb,hel⟩:=h.sr.el hn;exact⟨b,off,e,hb,qW fun j v hj=>hel i p hi j v hj,h.ok p (LP hi)⟩
theorem SS.Jt{base:Nat}{t:TypeId}{v:Value}{xs:List PS}(h:w.ownsRow base t 12 v n (aJ dP xs))(hl:xs.length=n)(hz:n*176<=aF)(hr:∀p∈xs,xO w p):∃A c,v=.slice A n c/\SS w A n c xs:=by
 obtain⟨A,c,rfl,hs⟩:=SR.Jt db h hl;exact⟨A,c,rfl,hs,hz,hr⟩
theorem SI.Jt{base:Nat}{t:TypeId}{v:Value}{xs:List PI}(h:w.ownsRow base t 12 v n (aJ ax xs))(hl:xs.length=n)(hz:n*168<=aF)(hr:∀p∈xs,iY w p):∃A c,v=.slice A n c/\SI w A n c xs:=by
 obtain⟨A,c,rfl,hs⟩:=SR.Jt bR h hl;exact⟨A,c,rfl,hs,hz,hr⟩
end
theorem lI:(Tryz.prog.info? 167).map (fun i=>(i.zero,i.size,i.bytes))=some (some (xN (((VC.zero,aC.zero),false),((VC.zero,aC.zero),false))),12,176):=by kernel_rfl
theorem fE:(Tryz.prog.info? 84).map (fun i=>(i.zero,i.size,i.bytes))=some (some (cR (((VC.zero,aC.zero),(VC.zero,aC.zero)),(false,false))),12,168):=by kernel_rfl
end Go.Proofs.YthfahkaadbdicaaGreatDoor
