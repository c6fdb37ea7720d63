/- A part of the proof. -/
import Derived.Test.YtgfoliedmhgpnaaGreatDoorBn19
import Derived.Test.YtgfoliedmhgpnaaGreatDoorRows
import Derived.Deep.RegionHeld3
import Derived.Maps.RangeWalk
import Derived.Lib.Hide
import Derived.WalkKit
import Derived.WalkSpells
import Derived.WalkLawsBesides
import Derived.Deep.QuietTactic
import Derived.BigQuiet
import Derived.Deep.DeepCutAuto
import Derived.Deep.CutBlock
import Derived.Laws.Rows
import Derived.Laws.ResultCell
import Derived.RegionTactic
import Derived.BigRegion
import Derived.Maps.AppendAt
import Derived.Deep.AppendLies
import Derived.OwnWalk
import Derived.Deep.RegionLaw
import Derived.StillTail
import Derived.IntWalk
import Derived.Shelf.Abstract
import Derived.Lib.Bytealg
import Derived.Lib.Small
import Derived.Lib.ValidU
import Derived.Deep.MidRow
import Derived.Shelf.Unicode.DecodeSlow
import Derived.Maps.Own
import Derived.Maps.OwnSet
import Derived.StringKeys
import Derived.Ground.NamesProg
import Derived.Shelf.Unicode.ValidAny
import Derived.Lib.Walk
import Derived.Laws.OwnMore
import Derived.Lib.SmallJoins
import Derived.ProofKit
import Derived.OpenShut
import Derived.Deep.Slices
import Derived.Lib.ValidLaws
import Derived.Laws.Strings
import Derived.WideShapes
import Derived.Laws.IdiomCopy
import Derived.Lib.SliceRun
import Derived.Lib.AppendZerosOnto
import Derived.Laws.BytesArg
import Derived.Laws.Concat
import Derived.Lib.AppendStr
import Derived.Great.BuildSlice
set_option maxRecDepth 100000
set_option maxHeartbeats 16000000
set_option linter.unusedSimpArgs false
open Go.Proofs.Tryz
open ByteArray (empty)
namespace Go.Proofs.YtgfoliedmhgpnaaGreatDoor
open Go.RowKit
section
variable {l r:List ByteArray} {b c k i n off j m q size:Nat} {op a x d:Int} {s:ByteArray} {w w' W:World} {F:Nat -> Prop} {e t:TypeId} {P:Program} {v:Value}
def am(P:Bool->Prop)(w:World)(e:Ending)(w':World):Prop:=∃r:Bool,e=.returned (.bool r)/\P r/\Below w.heap.size w w'
theorem am.of{P:Bool->Prop}{w w':World}{r:Bool}(h:P r)(hb:Below w.heap.size w w'):am P w (.returned (.bool r)) w':=⟨r,rfl,h,hb⟩
def zl(n:Nat)(w:World)(e:Ending)(w':World):Prop:=∃r:ByteArray,e=.returned (.string r)/\r.size<=n/\Below w.heap.size w w'
theorem nj(b:Int)(w:World):Calls prog 322 #[.int .u8 b] w (am (fun _=>True) w):=by
 rcases(show b<48\/(48<=b/\b<=57)\/(57<b/\b<65)\/(65<=b/\b<=90)\/(90<b/\b<97)\/(97<=b/\b<=122)\/(122<b/\b<128)\/128<=b by omega) with h|h|h|h|h|h|h|h
 ·have h1:¬97<=b:=by omega
  have h2:¬65<=b:=by omega
  have h3:¬48<=b:=by omega
  have h4:¬128<=b:=by omega
  clear h;go_enter Mr,Mf;go_wp2_with fail;go_ret;exact am.of trivial (Ju _ _)
 ·have h1:¬97<=b:=by omega
  have h2:¬65<=b:=by omega
  obtain⟨h3,h4⟩:=h;go_enter Mr,Mf;go_wp2_with fail;go_ret;exact am.of trivial (Ju _ _)
 ·have h1:¬97<=b:=by omega
  have h2:¬65<=b:=by omega
  have h3:48<=b:=by omega
  have h4:¬b<=57:=by omega
  have h5:¬128<=b:=by omega
  clear h;go_enter Mr,Mf;go_wp2_with fail;go_ret;exact am.of trivial (Ju _ _)
 ·have h1:¬97<=b:=by omega
  obtain⟨h3,h4⟩:=h;go_enter Mr,Mf;go_wp2_with fail;go_ret;exact am.of trivial (Ju _ _)
 ·have h1:¬97<=b:=by omega
  have h2:65<=b:=by omega
  have h3:¬b<=90:=by omega
  have h4:48<=b:=by omega
  have h5:¬b<=57:=by omega
  have h6:¬128<=b:=by omega
  clear h;go_enter Mr,Mf;go_wp2_with fail;go_ret;exact am.of trivial (Ju _ _)
 ·obtain⟨h3,h4⟩:=h;go_enter Mr,Mf;go_wp2_with fail;go_ret;exact am.of trivial (Ju _ _)
 ·have h1:97<=b:=by omega
  have h2:¬b<=122:=by omega
  have h3:65<=b:=by omega
  have h4:¬b<=90:=by omega
  have h5:48<=b:=by omega
  have h6:¬b<=57:=by omega
  have h7:¬128<=b:=by omega
  clear h;go_enter Mr,Mf;go_wp2_with fail;go_ret;exact am.of trivial (Ju _ _)
 ·have h1:97<=b:=by omega
  have h2:¬b<=122:=by omega
  have h3:65<=b:=by omega
  have h4:¬b<=90:=by omega
  have h5:48<=b:=by omega
  have h6:¬b<=57:=by omega
  go_enter Mr,Mf;go_wp2_with fail;go_ret;exact am.of trivial (Ju _ _)
theorem pE(b:Int)(w:World):Calls prog 323 #[.int .u8 b] w (am (fun _=>True) w):=by
 cases h1:(b==9)<;>cases h2:(b==10)<;>cases h3:(b==13)
 all_goals
  go_enter func323,ntmps323;go_wp2_with fail;go_ret;exact am.of trivial (Ju _ _)
def EA(s:ByteArray)(m:Int)(r:Bool):Prop:=r=true->m<s.size
theorem zm(s t:ByteArray)(m:Int)(w:World)(hs:s.size<=1000000000)(ht:t.size<=1000):Calls prog 341 #[.string s,.string t,.int .i64 m] w (am (EA s m) w):=by
 by_cases h1:m<(s.size:Int)
 ·by_cases h2:t.size<=s.size
  ·have HM:=qD h1;have h2i:(t.size:Int)<=(s.size:Int):=by omega
   go_enter func341,ntmps341;go_wp2_with fail;go_ret;exact am.of (fun _=>HM.out) (Ju _ _)
  ·have h2i:¬(t.size:Int)<=(s.size:Int):=by omega
   go_enter func341,ntmps341;go_wp2_with fail;go_ret;exact am.of (P:=EA s m) (fun h=>by first|cases h|simp at h) (Ju _ _)
 ·go_enter func341,ntmps341;go_wp2_with fail;go_ret;exact am.of (P:=EA s m) (fun h=>by first|cases h|simp at h) (Ju _ _)
theorem eX{s : ByteArray}{i : Nat}(h : i < s.size) : ∃ x : Int, ((s[i]'h).toNat : Int) = x := ⟨_, rfl⟩
theorem dE(s:ByteArray)(w:World)(hs:s.size<=1000000000):Calls prog 257 #[.string s] w (zl s.size w):=by
 go_enter func257,ntmps257;go_upto_region 3 with fail
 go_loopw [3,4,5] (fun v3 v4 _ wr=>∃(i:Nat) (t:ByteArray),i<=s.size/\v4=.int .i64 i/\v3=.string t/\t.size=i/\Below w.heap.size w wr) (fun _ v4 _ _=>s.size-(intOf v4).toNat)
 ·exact⟨0,empty,KD _,rfl,rfl,rfl,Ju _ _⟩
 case round=>
  obtain⟨i,t,hi,rfl,rfl,ht,hb⟩:=hrel;have HB:=qD hb;have HTS:=qD ht;clear hb ht;by_cases hlt:i<s.size
  ·obtain⟨x,hx⟩:=eX hlt;have i0:(0:Int)<=(i:Int):=by omega
   have i1:(i:Int)<(s.size:Int):=by omega
   have key:∀y:Int,∃z,z=strOfNums [y]/\z.size=1/\(convert 133 9 (.slice (some ⟨wr.heap.size,0,none⟩) 1 1)).run prog (wr.alloc (.cells #[.int .u8 y] 5))=.ok (.string z) (wr.alloc (.cells #[.int .u8 y] 5)):=fun y=>
    ⟨_,rfl,by rw[OG];rfl,FM y wr Mj⟩
   have KEY:=qD key;clear key;rcases(show(65<=x/\x<=90)\/x<65\/(65<=x/\90<x) by omega) with h|h|h
   ·obtain⟨h1,h2⟩:=h;obtain⟨z,-,hz,hcv⟩:=KEY.out (x+32);have hcat:∀w2:World,(Op.stringOp .add t z).run prog w2=.ok (.string (t++z)) w2:=fun w2=>Lm _ _ _ (by have:=HTS.out;omega);have HZ:=qD hz;clear hz;go_wp2_with fail;go_roundw
    ·exact⟨i+1,t++z,by omega,by go_num,rfl,by rw[LZ,HZ.out,HTS.out],HB.out.alloc HB.out.size _⟩
    ·simp[intOf];omega
   ·have h1:¬65<=x:=by omega
    obtain⟨z,-,hz,hcv⟩:=KEY.out x;have hcat:∀w2:World,(Op.stringOp .add t z).run prog w2=.ok (.string (t++z)) w2:=fun w2=>Lm _ _ _ (by have:=HTS.out;omega);have HZ:=qD hz;clear hz;go_wp2_with fail;go_roundw
    ·exact⟨i+1,t++z,by omega,by go_num,rfl,by rw[LZ,HZ.out,HTS.out],HB.out.alloc HB.out.size _⟩
    ·simp[intOf];omega
   ·obtain⟨h1,h3⟩:=h;have h2:¬x<=90:=by omega
    obtain⟨z,-,hz,hcv⟩:=KEY.out x;have hcat:∀w2:World,(Op.stringOp .add t z).run prog w2=.ok (.string (t++z)) w2:=fun w2=>Lm _ _ _ (by have:=HTS.out;omega);have HZ:=qD hz;clear hz h3;go_wp2_with fail;go_roundw
    ·exact⟨i+1,t++z,by omega,by go_num,rfl,by rw[LZ,HZ.out,HTS.out],HB.out.alloc HB.out.size _⟩
    ·simp[intOf];omega
  ·obtain rfl:i=s.size:=by omega
   go_wp2_with fail;go_ret;exact⟨t,rfl,Nat.le_of_eq HTS.out,HB.out⟩
theorem dF{s:ByteArray}{a b:Nat}:(s.extract a b).size<=s.size:=by
 rw[MX];omega
theorem zn(s:ByteArray)(w:World)(hs:s.size<=1000000000):Calls prog 321 #[.string s] w (zl s.size w):=by
 have HS:=qD hs;have E:Hid (∀(t:ByteArray) (m:Int) (w:World),t.size<=1000->Calls prog 341 #[.string s,.string t,.int .i64 m] w (am (EA s m) w)):=qD fun t m w ht=>zm s t m w hs ht;have hsz:(s.size:Int)<=1000000000:=by omega
 clear hs;have Z:=qD (Ju w.heap.size w);go_enter func321,ntmps321;go_wp2_with fail;refine(E.out _ _ _ (by decide)).mono ?_;rintro e w1 ⟨b1,rfl,hb1,hb⟩;replace Z:=qD (Z.out.Ih hb);clear hb;cases b1
 ·clear hb1;go_wp2_with fail;refine(E.out _ _ _ (by decide)).mono ?_;rintro e w2 ⟨b1,rfl,hb1,hb⟩;replace Z:=qD (Z.out.Ih hb);clear hb;cases b1
  ·clear hb1;go_wp2_with fail;refine(E.out _ _ _ (by decide)).mono ?_;rintro e w3 ⟨b1,rfl,hb1,hb⟩;replace Z:=qD (Z.out.Ih hb);clear hb;cases b1
   ·clear hb1;go_wp2_with fail;refine(E.out _ _ _ (by decide)).mono ?_;rintro e w4 ⟨b1,rfl,hb1,hb⟩;replace Z:=qD (Z.out.Ih hb);clear hb;cases b1
    ·clear hb1;go_wp2_with fail;refine(E.out _ _ _ (by decide)).mono ?_;rintro e w5 ⟨b1,rfl,hb1,hb⟩;replace Z:=qD (Z.out.Ih hb);clear hb;cases b1
     ·clear hb1;go_wp2_with fail;go_ret;exact⟨s,rfl,qL,Z.out⟩
     ·have h1:(3:Int)<s.size:=hb1 rfl;clear hb1;go_wp2_with fail;refine(E.out _ _ _ (by decide)).mono ?_;rintro e w6 ⟨b2,rfl,_,hb⟩;replace Z:=qD (Z.out.Ih hb);clear hb;have h2:1<=s.size:=by omega
      have h3:(1:Int)<=(s.size:Int):=by omega
      cases b2
      all_goals
       go_wp2_with fail;go_ret;exact⟨_,rfl,by first|exact qL|exact dF,Z.out⟩
    ·have h1:(4:Int)<s.size:=hb1 rfl;clear hb1;have h2:2<=s.size:=by omega
     have h3:(2:Int)<=(s.size:Int):=by omega
     go_wp2_with fail;go_ret;exact⟨_,rfl,dF,Z.out⟩
   ·have h1:(5:Int)<s.size:=hb1 rfl;clear hb1;have h2:3<=s.size:=by omega
    have h3:(3:Int)<=(s.size:Int):=by omega
    go_wp2_with fail;go_ret;exact⟨_,rfl,dF,Z.out⟩
  ·have h1:(4:Int)<s.size:=hb1 rfl;clear hb1;have h2:3<=s.size:=by omega
   have h3:(3:Int)<=(s.size:Int):=by omega
   go_wp2_with fail;go_ret;refine⟨_,rfl,?_,Z.out⟩;rw[LZ,MX];show min (s.size-3) s.size-0+1<=s.size;omega
 ·have h1:(3:Int)<s.size:=hb1 rfl;clear hb1;have h2:2<=s.size:=by omega
  have h3:(2:Int)<=(s.size:Int):=by omega
  go_wp2_with fail;go_ret;exact⟨_,rfl,dF,Z.out⟩
def kJ(s : ByteArray)(i : Nat) : Int := if h : i < s.size then ((s[i]'h).toNat : Int) else 0
theorem uX{s : ByteArray}{i : Nat}(h : i < s.size) : kJ s i = ((s[i]'h).toNat : Int) := by rw [kJ, dif_pos h]
def uY(s:ByteArray):Nat->Nat
 | 0=>0
 | i+1=>uY s i*10+(kJ s i-48).toNat
def sh(s:ByteArray):Prop:=1<=s.size/\s.size<=4/\¬(kJ s 0=48/\1<s.size)/\∀i,i<s.size->48<=kJ s i/\kJ s i<=57
open Classical in
noncomputable def ik(s:ByteArray):Option Nat:=if sh s then some (uY s s.size) else none
theorem wj{s:ByteArray}(h:¬sh s):ik s=none:=by rw[ik,KU h]
theorem wk{s:ByteArray}(h:sh s):ik s=some (uY s s.size):=by rw[ik,Kb h]
def iH(s:ByteArray)(w:World)(e:Ending)(w':World):Prop:=∃(n:Nat) (b:Bool),e=.returned (.tuple #[.int .i64 n,.bool b])/\n<=99999/\ik s=(if b then some n else none)/\Below w.heap.size w w'
theorem iH.no{s:ByteArray}{w w':World}(h:¬sh s)(hb:Below w.heap.size w w'):iH s w (.returned (.tuple #[.int .i64 0,.bool false])) w':=⟨0,false,rfl,by omega,wj h,hb⟩
theorem uZ(s:ByteArray)(w:World):Calls prog 245 #[.string s] w (iH s w):=by
 by_cases h1:s.size<1
 ·have h1i:(s.size:Int)<1:=by omega
  go_enter func245,ntmps245;go_wp2_with fail;go_ret2;exact iH.no (fun k=>by have:=k.1;omega) (Ju _ _)
 by_cases h4:4<s.size
 ·have h1i:¬(s.size:Int)<1:=by omega
  have h4i:(4:Int)<(s.size:Int):=by omega
  go_enter func245,ntmps245;go_wp2_with fail;go_ret2;exact iH.no (fun k=>by have:=k.2.1;omega) (Ju _ _)
 have h1i:¬(s.size:Int)<1:=by omega
 have h4i:¬(4:Int)<(s.size:Int):=by omega
 have h0:0<s.size:=by omega
 have h0i:(0:Int)<(s.size:Int):=by omega
 obtain⟨y,hy⟩:=eX h0;have HD0:Hid (kJ s 0=y):=qD ((uX h0).trans hy);go_enter func245,ntmps245;rcases(show((y==48)=true/\1<s.size)\/((y==48)=false/\1<s.size)\/((y==48)=true/\¬1<s.size)\/((y==48)=false/\¬1<s.size) by cases(y==48)<;>simp<;>omega) with⟨hq,h2⟩|⟨hq,h2⟩|⟨hq,h2⟩|⟨hq,h2⟩
 ·have h2i:(1:Int)<(s.size:Int):=by omega
  go_wp2_with fail;go_ret2;exact iH.no (fun k=>k.2.2.1 ⟨by rw[HD0.out];simpa using hq,h2⟩) (Ju _ _)
 all_goals
  have HNZ:Hid (¬(kJ s 0=48/\1<s.size)):=qD (by rintro⟨k1,k2⟩;rw[HD0.out] at k1;simp[k1] at hq<;>omega)
  first|(have h2j:(1:Int)<(s.size:Int):=by omega)|(have h2j:¬(1:Int)<(s.size:Int):=by omega)
  go_upto_region 5 with fail
  go_loopw [4,5] (fun v4 v5 wr=>∃(i n:Nat),i<=s.size/\v5=.int .i64 i/\v4=.int .i64 n/\n+1<=10^i/\(n=uY s i/\∀k,k<i->48<=kJ s k/\kJ s k<=57)/\Below w.heap.size w wr) (fun _ v5 _=>s.size-(intOf v5).toNat)
  ·exact⟨0,0,KD _,rfl,rfl,qL,⟨rfl,fun k hk=>absurd hk (Ny _)⟩,Ju _ _⟩
  case round=>
   obtain⟨i,n,hi,rfl,rfl,hn,hF,hb⟩:=hrel;have HF:=qD hF;clear hF;have HB:=qD hb;have HN:=qD hn;clear hb hn;by_cases hlt:i<s.size
   ·obtain⟨x,hx⟩:=eX hlt;have HDX:Hid (kJ s i=x):=qD ((uX hlt).trans hx);have i0:(0:Int)<=(i:Int):=by omega
    have i1:(i:Int)<(s.size:Int):=by omega
    have hp3:10^i<=1000:=KM (MA (by omega) (show i<=3 by omega)) (by decide);have hn9:n<=999:=by have:=HN.out;omega
    have hps:10^(i+1)=10^i*10:=Nat.pow_succ ..;have HPS:=qD hps;clear hps hp3;by_cases hx1:x<48
    ·go_wp2_with fail;go_ret2;exact iH.no (fun k=>by have:=k.2.2.2 i hlt;rw[HDX.out] at this;omega) HB.out
    by_cases hx2:57<x
    ·go_wp2_with fail;go_ret2;exact iH.no (fun k=>by have:=k.2.2.2 i hlt;rw[HDX.out] at this;omega) HB.out
    have hn9i:(n:Int)<=999:=by omega
    have hn0i:(0:Int)<=(n:Int):=by omega
    have hx3:48<=x:=by omega
    have hx4:x<=57:=by omega
    have HZ:Hid (((n*10+(x-48).toNat:Nat):Int)=(n:Int)*10+(x-48)):=by rw[Hid];omega
    have HD:Hid ((x-48).toNat<=9):=by rw[Hid];omega
    go_wp2_with fail;go_roundw
    case rel=>exact⟨i+1,n*10+(x-48).toNat,by omega,by go_num,by rw[HZ.out],by rw[HPS.out];have h1:=HN.out;have h2:=HD.out;omega,⟨by rw[uY,<-HF.out.1,HDX.out],fun k hk=>by
     rcases Mz k i with h|h
     ·exact HF.out.2 k h
     ·obtain rfl:k=i:=by omega
      rw[HDX.out];exact⟨hx3,hx4⟩⟩,HB.out⟩
    case measure=>simp[intOf];omega
   ·obtain rfl:i=s.size:=by omega
    have hp3:10^s.size<=10000:=KM (MA (by omega) (show s.size<=4 by omega)) (by decide);have hn9:n<=9999:=by have:=HN.out;omega
    clear hp3;go_wp2_with fail;go_ret2;exact⟨n,true,rfl,by omega,by rw[wk ⟨by omega,by omega,HNZ.out,HF.out.2⟩,<-HF.out.1];rfl,HB.out⟩
def dR(name:ByteArray):List cF->Nat->Int
 | [],_=>-1
 | f::r,i=>if f.s.toList==name.toList then(i:Int) else dR name r (i+1)
def gT(x:aC)(name:ByteArray):Int:=if x.k==5 then dR name x.d 0 else -1
theorem pF(name:ByteArray)(d:List cF):∀i:Nat,dR name d i=-1\/∃j:Nat,dR name d i=(i+j:Nat)/\j<d.length:=by
 induction d with
 | nil=>intro i;exact .inl rfl
 | cons f r ih=>
  intro i;simp only[dR];split
  ·exact .inr ⟨0,by simp,by simp⟩
  ·rcases ih (i+1) with h|⟨j,h1,h2⟩
   ·exact .inl h
   ·exact .inr ⟨j+1,by rw[h1];congr 1;omega,by simp;omega⟩
theorem nk(x:aC)(name:ByteArray):gT x name=-1\/∃j:Nat,gT x name=j/\∃f,x.d[j]?=some f:=by
 unfold gT;split
 ·rcases pF name x.d 0 with h|⟨j,h1,h2⟩
  ·exact .inl h
  ·exact .inr ⟨j,by rw[h1];simp,_,Jv h2⟩
 ·exact .inl rfl
def eY(x:aC)(name:ByteArray):Option aC:=if 0<=gT x name then(x.d[(gT x name).toNat]?).map cF.v else none
theorem rE{x:aC}{name:ByteArray}(h:gT x name=-1):eY x name=none:=by simp[eY,h]
theorem zo{x:aC}{name:ByteArray}{j:Nat}{f:cF}(h:gT x name=j)(hf:x.d[j]?=some f):eY x name=some f.v:=by
 simp[eY,h,hf]
theorem kK{fn:Func}{p u:Tmp}(h:fn.results=#[.cell p 29,.tmp u])(tmps:Array Value)(g1 off:Nat)(h1:tmps.getD p undef=.pointer (some ⟨g1,off,none⟩))(e:Value)(h2:tmps.getD u undef=e)(W:World)(v:VC)(q:aS W g1 off v):(results fn tmps).run prog W=.ok (.tuple #[v.val,e]) W:=by
 obtain⟨q0,q1,q2,q3,q4⟩:=q;rw[Ob h,h1,h2];simp[asAddr,go_sem,q0,q1,q2,q3,q4]
theorem ye(x:aC)(c:VC)(name:ByteArray)(w:World)(h:RW w c x):
 Calls prog 294 #[c.val,.string name] w fun e w'=>e=.returned (.int .i64 (gT x name))/\Below w.heap.size w w':=by
 have HO:=qD h.open;clear h;cases hk:(c.k != 5)
 ·have hn:c.dn<=140737488355328:=by have:=HO.out.dsz;unfold aH at this;omega
  have HE:Hid (gT x name=dR name x.d 0):=by
   have:=HO.out.k;simp at hk;simp[gT,<-this,hk,Hid]
  go_enter func294,ntmps294;go_wp2_with fail
  go_loopw [4,5] (fun v4 v5 wr=>∃i:Nat,i<=c.dn/\v4=.int .i64 0/\v5=.int .i64 i/\dR name x.d 0=dR name (x.d.drop i) i/\aG wr w.heap.size 29 c.arr/\Below w.heap.size w wr) (fun _ v5 _=>c.dn-(intOf v5).toNat)
  ·exact⟨0,KD _,rfl,rfl,rfl,aG.Ii rfl,(Ju _ _).alloc (qL) _⟩
  case round=>
   obtain⟨i,hi,rfl,rfl,hall,N1,N2⟩:=hrel;have e4:=N1.cell 4;simp at e4;have HA:=qD hall;clear hall;by_cases hlt:i<c.dn
   ·obtain⟨b,off,hDA,_,hel⟩:=HO.out.da (by omega);obtain⟨f,hf⟩:∃f,x.d[i]?=some f:=⟨_,Jv (by have:=HO.out.dn;omega)⟩;obtain⟨hs,_,_⟩:=hel i f hf;have hs':=(N2.cell (p:=⟨b,off+i*6,none⟩) (KY w _ hs)).trans hs;have e4':=e4;rw[hDA] at e4;have HD:=qD (dX hf);have J1:=qD N1;have J2:=qD N2;clear hs hel hf hDA N1 N2 e4';cases hq:(f.s.toList==name.toList)
    ·have HF:Hid (dR name x.d 0=dR name (x.d.drop (i+1)) (i+1)):=by rw[Hid,HA.out,HD.out,dR,hq];rfl
     go_wp2_with fail;go_roundw
     ·exact⟨i+1,by omega,rfl,by go_num,HF.out,J1.out,J2.out⟩
     ·simp[intOf];omega
    ·have HF:Hid (dR name x.d 0=(i:Int)):=by rw[Hid,HA.out,HD.out,dR,hq];rfl
     go_wp2_with fail;go_ret;exact⟨by rw[HE.out,HF.out];rfl,J2.out⟩
   ·have HF:Hid (dR name x.d 0=-1):=by rw[Hid,HA.out,Kk (by have:=HO.out.dn;omega)];rfl
    have J2:=qD N2;clear N1 N2;go_wp2_with fail;go_ret;exact⟨by rw[HE.out,HF.out];rfl,J2.out⟩
 ·have HE:Hid (gT x name=-1):=by
   have:=HO.out.k;simp at hk;simp[gT,<-this,hk,Hid]
  go_enter func294,ntmps294;go_wp2_with fail;go_ret;exact⟨by rw[HE.out];rfl,(Ju _ _).alloc (qL) _⟩
def FX(x:aC)(name:ByteArray)(w:World)(e:Ending)(w':World):Prop:=
 ∃(c:VC),e=.returned (.tuple #[c.val,.bool (eY x name).isSome])/\RW w' c ((eY x name).getD aC.zero)/\Below w.heap.size w w'
def CC(F:Nat->Prop)(x:aC)(name:ByteArray)(w:World)(e:Ending)(w':World):Prop:=
 ∃(c:VC),e=.returned (.tuple #[c.val,.bool (eY x name).isSome])/\RV F w' c ((eY x name).getD aC.zero)/\Below w.heap.size w w'
theorem si{F:Nat->Prop}(x:aC)(c:VC)(name:ByteArray)(w:World)(h:RV F w c x):
 Calls prog 244 #[c.val,.string name] w (CC F x name w):=by
 have H:=qD h;clear h;go_enter func244,ntmps244;go_wp2_with fail;refine(ye x c name _ (((H.out.mono fun _ _=>trivial).alloc _).alloc _)).mono ?_;rintro e w1 ⟨rfl,hb⟩;have B0:aG w1 w.heap.size 29 c.arr:=((aG.Ii rfl).alloc _).step hb;have B1:aG w1 (w.heap.size+1) 29 VC.zero.arr:=(aG.Ii (by simp)).step hb;have B2:Below w.heap.size w w1:=(((Ju _ _).alloc (qL) _).alloc (by simp) _).trans (hb.mono (by simp;omega));clear hb;have J1:=qD B1;have J2:=qD B2;obtain⟨b0,b1,b2,b3,b4⟩:=aS.Ig B1;have e4:=B0.cell 4;have z:=B1.frozen;simp at e4;clear B0 B1 B2;rcases nk x name with hf|⟨j,hf,f,hj⟩
 ·have HG:=qD (rE hf);rw[hf];clear hf;go_wp2_with fail;have q:=aS.Ig (J1.out.putV VC.zero);refine Jz (kK rfl _ _ _ rfl _ rfl _ VC.zero q) rfl ?_;refine⟨VC.zero,?_,?_,af J2.out (by omega) 0 VC.zero⟩
  ·rw[HG.out];rfl
  ·rw[HG.out];exact RV.zero
 ·have HG:=qD (zo hf hj);rw[hf];clear hf;have ho:=H.out.open;have hjlt:j<c.dn:=by have:=(KF.1 hj).1;have:=ho.dn;omega
  have hdz:c.dn<=140737488355328:=by have:=ho.dsz;unfold aH at this;omega
  obtain⟨b,off,hDA,_,hel⟩:=ho.da (by omega);obtain⟨_,_,u,hu,hr⟩:=hel j f hj;rw[hDA] at e4;obtain⟨u0,u1,u2,u3,u4⟩:=hu.keep (J2.out.block b hu.lt);have HR:=qD (hr.lt.Il (G:=fun q=>F q/\q<w.heap.size) (w':=bH w1 (w.heap.size+1) 0 u) fun q hq _=>⟨hq,by rw[bO (by have:=hq.2;omega)];exact J2.out.block q hq.2⟩);clear ho hel hr hu hDA hj;go_wp2_with fail;have q:=aS.Ig (J1.out.putV u);refine Jz (kK rfl _ _ _ rfl _ rfl _ u q) rfl ?_;refine⟨u,?_,?_,af J2.out (by omega) 0 u⟩
  ·rw[HG.out];rfl
  ·rw[HG.out];exact HR.out.mono fun _ h=>h.1
theorem CD(x:aC)(c:VC)(name:ByteArray)(w:World)(h:RW w c x):
 Calls prog 244 #[c.val,.string name] w (FX x name w):=si x c name w h
def dm:aC:=.mk 2 0 empty [] []
def gA:VC:=⟨2,0,empty,none,0,0,none,0,0⟩
theorem ku{F:Nat->Prop}{w:World}:RV F w gA dm:=
 sK.shut ⟨rfl,rfl,rfl,by decide,rfl,qL,by decide,fun h=>absurd h (by decide),rfl,qL,by decide,fun h=>absurd h (by decide)⟩
theorem rF{x:aC}(s:ByteArray)(h:x.k≠5):eY x s=none:=by
 refine rE ?_;unfold gT;rw[KU (by simpa using h)]
theorem gm(w:World):Calls prog 34 #[] w fun e w'=>e=.returned gA.val/\Below w.heap.size w w':=by
 go_enter func34,ntmps34;go_wp2_with fail;exact Jz (aF rfl _ _ _ rfl _ gA (aS.Ig (aG.new _ _ _))) rfl ⟨rfl,(Ju _ _).alloc (qL) _⟩
theorem ST.tail{w:World}{b off n c:Nat}{s:ByteArray}{r:List ByteArray}(h:ST w (some ⟨b,off,none⟩) n c (s::r)):
 ST w (if c=1 then some ⟨b,off,none⟩ else some ⟨b,off+1,none⟩) (n-1) (c-1) r:=by
 have hl:=h.sr.ln;have hc:=h.sr.lc;simp only[Ks] at hl;have hz:=h.sz;refine⟨⟨by omega,by omega,fun hn=>?_⟩,by omega,fun x hx=>h.el x (by simp[hx])⟩;obtain⟨b',off',e,hb,hel⟩:=h.sr.el (by omega);cases e;rw[KU (by omega)];refine⟨b,off+1,rfl,hb,fun i a hi j v hj=>?_⟩;have:=hel (i+1) a (by simpa using hi) j v hj;rw[show off+1+i*1+j=off+(i+1)*1+j by omega];exact this
end
end Go.Proofs.YtgfoliedmhgpnaaGreatDoor
