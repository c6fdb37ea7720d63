/- Parts of the proof, joined: EncKey, EncKey2, CrcPure, Crc, ShCode, ShEnc, MgPure, MgWt, MgMv, MgRow, MgFar, MgClone, ValOpen, IvCopy, ChBaseA, Kit6. -/
import Derived.Test.YtlicnjecnehaoaaGreatDoorRa1
import Derived.Test.YtlicnjecnehaoaaGreatDoorRa13
import Derived.Test.YtlicnjecnehaoaaGreatDoorRa7
import Derived.Test.YtlicnjecnehaoaaGreatDoorRa12
import Derived.Test.YtlicnjecnehaoaaGreatDoorRa2
import Derived.Test.YtlicnjecnehaoaaGreatDoorRa4
import Derived.Deep.MidRow
import Derived.Great.BuildSlice
import Derived.Laws.Rows
import Derived.Laws.ResultCell
import Derived.Laws.OwnMore
import Derived.Lib.AppendZerosOnto
import Derived.Lib.SmallJoins
import Derived.ProofKit
import Derived.OpenShut
import Derived.Deep.Slices
import Derived.Laws.IdiomCopy
import Derived.Lib.SliceRun
set_option maxRecDepth 100000
set_option maxHeartbeats 16000000
set_option linter.unusedSimpArgs false
namespace Go.Proofs.YtlicnjecnehaoaaGreatDoor
open Go.RowKit
theorem size0(t:ByteArray):(t.toList==[])=decide (t.size=0):=by
 rw[ByteArray.toList_eq,←dsize]
 cases t.data.toList with
 | nil=>rfl
 | cons a r=>simp
theorem beq0(n:Nat):((n:Int)==0)=decide (n=0):=by
 by_cases h:n=0
 ·rw[h];rfl
 ·rw[decide_eq_false h]
  exact beq_eq_false_iff_ne.2 (by omega)
theorem allowed_any(x:Val)(c:VC)(w:World)(hT:Tabs w)(h:RW w c x):
 Calls Tryz.prog 110 #[c.val] w fun e w'=>e=.returned (.bool (allowB x))∧Below w.heap.size w w':=by
 have ho:=h.open
 have hvk:x.k=0→validV x=false:=fun e=>by
  cases hv:validV x
  ·rfl
  ·simp only[validV,Bool.and_eq_true] at hv
   have:=((SoundV_iff nameB x).1 (soundB_iff.1 hv.2)).1.kind
   omega
 have B0:Hid (Blk (w.alloc (.cells c.arr 45)) w.heap.size 45 c.arr):=Blk.new_at rfl
 have BE:Hid (Below w.heap.size w (w.alloc (.cells c.arr 45))):=(Below.refl _ _).alloc (qL) _
 have HV:=qD fun(w1:World) (hb:Below w.heap.size w w1)=>valid_any x c w1 (hT.step hb) (h.step hb)
 have hk:=ho.k
 have hn:=ho.n
 have ht:=ho.t
 have hl:=ho.ln
 have hd:=ho.dn
 have HK:=qD (And.intro hk (And.intro hn (And.intro ht (And.intro hl (And.intro hd hvk)))))
 clear hT h ho hk hn ht hl hd hvk
 go_enter Tryz.func110,Tryz.ntmps110
 go_upto_region 1 with fail
 change (Code.region 1 _ _).wp _ _ _ (w.alloc (.cells c.arr 45))
 generalize w.alloc (.cells c.arr 45)=wa at*
 obtain⟨b0,b1,b2,b3,b4⟩:=VAt.of_blk B0.out
 simp only[Nat.zero_add] at b0 b1 b2 b3 b4
 by_cases h0:c.k=0
 ·obtain⟨hk,hn,ht,hl,hd,hvk⟩:=HK.out
  have hva:=hvk (by rw[←hk];exact h0)
  have HA:Hid (allowB x=(decide (c.n=0)&&(decide (c.t.size=0)&&(decide (c.ln=0)&&decide (c.dn=0))))):=by
   unfold Hid allowB missB
   rw[hva,←hk,←hn,←ht,←hl,←hd,decide_eq_true h0]
   simp
  have hsz:=size0 c.t
  have P0:∀q:BW wa,q.val.cell? ⟨w.heap.size,0,none⟩=some (.int .i64 c.k):=fun q=>q.cell b0
  have P1:∀q:BW wa,q.val.cell? ⟨w.heap.size,1,none⟩=some (.int .i64 c.n):=fun q=>q.cell b1
  have P2:∀q:BW wa,q.val.cell? ⟨w.heap.size,2,none⟩=some (.string c.t):=fun q=>q.cell b2
  have P3:∀q:BW wa,q.val.cell? ⟨w.heap.size,3,none⟩=some (.slice c.LA c.ln c.lc):=fun q=>q.cell b3
  have P4:∀q:BW wa,q.val.cell? ⟨w.heap.size,4,none⟩=some (.slice c.DA c.dn c.dc):=fun q=>q.cell b4
  clear hk hn ht hl hd hva hvk
  go_upto_region 2 with fail
  by_cases h1:c.n=0
  ·by_cases h2:c.t.size=0
   ·have h2b:(c.t.toList==[])=true:=by rw[hsz,decide_eq_true h2]
    by_cases h3:c.ln=0
    ·go_wp2_with fail
     go_ret
     exact⟨by rw[HA.out];simp[h1,h2,h3,beq0],BE.out⟩
    ·go_wp2_with fail
     go_ret
     exact⟨by rw[HA.out];simp[h1,h2,h3],BE.out⟩
   ·have h2b:(c.t.toList==[])=false:=by rw[hsz,decide_eq_false h2]
    go_wp2_with fail
    go_ret
    exact⟨by rw[HA.out];simp[h1,h2],BE.out⟩
  ·go_wp2_with fail
   go_ret
   exact⟨by rw[HA.out];simp[h1],BE.out⟩
 ·obtain⟨hk,hn,ht,hl,hd,hvk⟩:=HK.out
  have h0b:(c.k==0)=false:=by simpa using h0
  have HA:Hid (allowB x=validV x):=by
   unfold Hid allowB missB
   rw[←hk,decide_eq_false h0]
   rfl
  clear hk hn ht hl hd hvk
  go_wp2_with fail
  refine(HV.out wa BE.out).mono ?_
  rintro e w1 ⟨rfl,hb⟩
  have CE:=qD (BE.out.step' hb)
  clear b0 b1 b2 b3 b4 hb HV B0
  go_wp2_with fail
  go_ret
  exact⟨by rw[HA.out];rfl,CE.out⟩
theorem missing_any(x:Val)(c:VC)(w:World)(h:RW w c x):
 Calls Tryz.prog 119 #[c.val] w fun e w'=>e=.returned (.bool (missB x))∧Below w.heap.size w w':=by
 have ho:=h.open
 have hk:=ho.k
 have hn:=ho.n
 have ht:=ho.t
 have hl:=ho.ln
 have hd:=ho.dn
 have HA:Hid (missB x=(decide (c.k=0)&&(decide (c.n=0)&&(decide (c.t.size=0)&&(decide (c.ln=0)&&decide (c.dn=0)))))):=by
  unfold Hid missB
  rw[←hk,←hn,←ht,←hl,←hd]
 clear hk hn ht hl hd h ho
 have B0:Hid (Blk (w.alloc (.cells c.arr 45)) w.heap.size 45 c.arr):=Blk.new_at rfl
 have BE:Hid (Below w.heap.size w (w.alloc (.cells c.arr 45))):=(Below.refl _ _).alloc (qL) _
 have hsz:=size0 c.t
 go_enter Tryz.func119,Tryz.ntmps119
 go_upto_region 1 with fail
 change (Code.region 1 _ _).wp _ _ _ (w.alloc (.cells c.arr 45))
 generalize w.alloc (.cells c.arr 45)=wa at*
 obtain⟨b0,b1,b2,b3,b4⟩:=VAt.of_blk B0.out
 simp only[Nat.zero_add] at b0 b1 b2 b3 b4
 by_cases h0:c.k=0
 ·by_cases h1:c.n=0
  ·by_cases h2:c.t.size=0
   ·have h2b:(c.t.toList==[])=true:=by rw[hsz,decide_eq_true h2]
    by_cases h3:c.ln=0
    ·go_wp2_with fail
     go_ret
     exact⟨by rw[HA.out];simp[h0,h1,h2,h3,beq0],BE.out⟩
    ·go_wp2_with fail
     go_ret
     exact⟨by rw[HA.out];simp[h0,h1,h2,h3],BE.out⟩
   ·have h2b:(c.t.toList==[])=false:=by rw[hsz,decide_eq_false h2]
    go_wp2_with fail
    go_ret
    exact⟨by rw[HA.out];simp[h0,h1,h2],BE.out⟩
  ·go_wp2_with fail
   go_ret
   exact⟨by rw[HA.out];simp[h0,h1],BE.out⟩
 ·have h0b:(c.k==0)=false:=by simpa using h0
  go_wp2_with fail
  go_ret
  exact⟨by rw[HA.out];simp[h0],BE.out⟩
noncomputable def allowsB(l:List Val):Bool:=l.all allowB
noncomputable def keyR(l:List Val):ByteArray×Int:=if allowsB l then(strOfNums (encAll l),0) else(ByteArray.empty,8)
theorem keyR_yes{l:List Val}(h:allowsB l=true):keyR l=(strOfNums (encAll l),0):=if_pos h
theorem keyR_no{l:List Val}{i:Nat}{y:Val}(hy:l[i]?=some y)(h:allowB y=false):keyR l=(ByteArray.empty,8):=by
 have:allowsB l=false:=by
  unfold allowsB
  rw[List.all_eq_false]
  exact⟨y,List.mem_of_getElem? hy,by rw[h];decide⟩
 unfold keyR
 rw[this]
 rfl
theorem allows_snoc{l:List Val}{i:Nat}{y:Val}(hy:l[i]?=some y)(ha:allowsB (l.take i)=true)(h:allowB y=true):allowsB (l.take (i+1))=true:=by
 unfold allowsB at*
 rw[take_snoc' hy,List.all_append,ha]
 simp[h]
theorem encAll_len{l:List Val}(h:allowsB l=true):(encAll l).length≤8500000*l.length:=by
 induction l with
 | nil=>simp[encAll]
 | cons a r ih=>
  have e:encAll (a::r)=encV a++encAll r:=rfl
  unfold allowsB at h
  rw[List.all_cons,Bool.and_eq_true] at h
  have h1:=(allow_enc h.1).2
  have h2:=ih h.2
  rw[e,List.length_append,List.length_cons]
  omega
def recX(b:Bool):List Value:=[.bool b]
theorem own_str{w:World}{base m:Nat}{v:Value}{xs:List Int}(h:w.ownsRow base 5 1 v m (bytesC xs))(hm:m=xs.length):(convert 152 9 v).run Tryz.prog w=.ok (.string (strOfNums xs)) w:=by
 rcases h.2 with⟨rfl,rfl⟩|⟨g,cap,cur,rfl,_⟩
 ·have:xs=[]:=List.eq_nil_of_length_eq_zero hm.symm
  subst this
  exact run_convert_bytes_nil (P:=Tryz.prog) w 152 5 Tryz.underlying152 Tryz.underlying5 0 0 9 Tryz.underlying9
 ·refine run_convert_bytes_arg (P:=Tryz.prog) w 152 5 Tryz.underlying152 Tryz.underlying5 g 0 m cap xs hm.symm (fun i hi=>?_) 9 Tryz.underlying9
  have hx:xs[i]?=some (xs.getD i 0):=by rw[List.getD_eq_getElem?_getD,List.getElem?_eq_getElem (by omega)];rfl
  have:=h.cells (g:=g) rfl i (.int .u8 (xs.getD i 0)) (by unfold bytesC;rw[List.getElem?_map,hx];rfl)
  rwa [addr_add] at this
structure EkI(w:World)(v:Value)(m:Nat)(l:List Int)(wr:World):Prop where
 own:wr.ownsRow w.heap.size 5 1 v m (bytesC l)
 ln:m=l.length
 bel:Below w.heap.size w wr
theorem EkI.step{w wr w':World}{v:Value}{m:Nat}{l:List Int}(h:EkI w v m l wr)(hb:Below wr.heap.size wr w'):EkI w v m l w':=⟨own_step h.own hb,h.ln,h.bel.step' hb⟩
theorem EkI.call{w wr w':World}{v:Value}{m:Nat}{l l':List Int}{e:Ending}(h:EkI w v m l wr)(ha:AppOk w.heap.size v l' wr e w'):∃v',e=.returned v'∧EkI w v' l'.length l' w':=by
 obtain⟨v',he,ho,hg,hb⟩:=ha
 exact⟨v',he,ho,rfl,h.bel.grown hg h.bel.size fun g hg'=>own_ge h.own g hg'⟩
theorem encode_any(ps:List PV)(A B:Option Addr)(n c bc:Nat)(w:World)(hT:Tabs w)(h:SL (fun _=>True) w A n c ps)(hd:SR 1 recX w B n bc (List.replicate n false))(hn:n≤10):
 Calls Tryz.prog 83 #[.slice A n c,.slice B n bc] w fun e w'=>e=.returned (.tuple #[.string (keyR (ps.map Prod.snd)).1,.int .i64 (keyR (ps.map Prod.snd)).2])∧Below w.heap.size w w':=by
 have HT:=qD hT
 have H:=qD h
 have HD:=qD hd
 have HL:Hid (n=ps.length):=h.sr.ln
 clear hT h hd
 have I0:Hid (EkI w (.slice none 0 0) 0 [] w):=⟨own_nil _ _ _ _,rfl,Below.refl _ _⟩
 go_enter Tryz.func83,Tryz.ntmps83
 go_upto_region 5 with fail
 go_loopw [6,7,8,9,10,18] (fun u6 _ _ _ _ u18 wr=>∃i m:Nat,i≤n∧u18=.int .i64 i∧allowsB ((ps.map Prod.snd).take i)=true∧EkI w u6 m (encAll ((ps.map Prod.snd).take i)) wr) (fun _ _ _ _ _ u18 _=>n-(intOf u18).toNat)
 case atStart=>exact⟨0,0,Nat.zero_le _,rfl,rfl,I0.out⟩
 case round=>
  obtain⟨i,m,hi,rfl,hal,J⟩:=hrel
  have J2:=qD J
  have HAL:=qD hal
  have hmb:m≤85000000:=by
   have h1:=J.ln
   have h2:=encAll_len hal
   have h3:((ps.map Prod.snd).take i).length≤i:=List.length_take_le _ _
   omega
  clear J hal I0
  obtain⟨Am,cm,hvm,hlm⟩:=own_slice J2.out.own
  subst hvm
  by_cases hlt:i<n
  ·obtain⟨p,hp⟩:∃p,ps[i]?=some p:=⟨_,List.getElem?_eq_getElem (by have:=HL.out;omega)⟩
   obtain⟨b,off,hA,_,hat,hrv⟩:=H.out.vat hp
   subst hA
   have hpl:(ps.map Prod.snd)[i]?=some p.2:=by rw[List.getElem?_map,hp];rfl
   obtain⟨q0,q1,q2,q3,q4⟩:=hat.step J2.out.bel
   have hbw:b<wr.heap.size:=World.block_lt_of_cell? wr _ q0
   have HR:=qD hrv.lt
   have HPL:=qD hpl
   have i0':(0:Int)≤(i:Int):=by omega
   have i1':(i:Int)<(n:Int):=by omega
   clear hp hat hrv hpl
   go_upto_region 7 with fail
   change (Code.region 7 _ _).wp _ _ _ (wr.alloc (.cells p.1.arr 45))
   have JB:Hid (Blk (wr.alloc (.cells p.1.arr 45)) wr.heap.size 45 p.1.arr):=Blk.new_at rfl
   have J3:=qD (J2.out.step ((Below.refl wr.heap.size wr).alloc (qL) (Obj.cells p.1.arr 45)))
   have NE:(Value.slice Am m cm).ownBlock≠some wr.heap.size:=fun e=>absurd (own_lt J2.out.own e) (by omega)
   generalize wr.alloc (.cells p.1.arr 45)=wa at*
   generalize wr.heap.size=ga at*
   clear q0 q1 q2 q3 q4 J2
   obtain⟨q0,q1,q2,q3,q4⟩:=VAt.of_blk JB.out
   simp only[Nat.zero_add] at q0 q1 q2 q3 q4
   have HAW:=qD (allowed_any p.2 p.1 wa (HT.out.step J3.out.bel) ((HR.out.keepG fun b hb _=>⟨trivial,J3.out.bel.block b hb.2⟩)))
   cases hA:allowB p.2
   ·have HK:=qD (keyR_no HPL.out hA)
    rw[hA] at HAW
    clear hA
    go_wp2_with fail
    refine HAW.out.mono ?_
    rintro e w1 ⟨rfl,hb⟩
    have J4:=qD (J3.out.step hb)
    clear q0 q1 q2 q3 q4 hb HAW J3 JB
    go_wp2_with fail
    go_ret2
    exact⟨by rw[HK.out];rfl,J4.out.bel⟩
   ·have HSN:=qD (encAll_snoc HPL.out)
    have HAS:=qD (allows_snoc HPL.out HAL.out hA)
    have HE1:=qD (allow_enc hA)
    rw[hA] at HAW
    clear hA
    go_wp2_with fail
    refine HAW.out.mono ?_
    rintro e w1 ⟨rfl,hb⟩
    have J4:=qD (J3.out.step hb)
    have JB2:=qD (JB.out.step hb)
    clear q0 q1 q2 q3 q4 hb HAW J3 JB
    obtain⟨q0,q1,q2,q3,q4⟩:=VAt.of_blk JB2.out
    simp only[Nat.zero_add] at q0 q1 q2 q3 q4
    have hap:=app_any p.2 p.1 (.slice Am m cm) (encAll ((ps.map Prod.snd).take i)) w.heap.size m w1 (HR.out.keepG fun b hb _=>⟨hb.2,J4.out.bel.block b hb.2⟩) HE1.out.1 J4.out.bel.size J4.out.ln J4.out.own (by have h1:=J4.out.ln;have h2:=HE1.out.2;omega)
    have HAP:=qD hap
    clear hap
    go_upto_region 10 with fail
    go_wp2_with fail
    refine HAP.out.mono ?_
    rintro e w2 hok
    obtain⟨v3,rfl,hJ5⟩:=J4.out.call hok
    rw[←HSN.out] at hJ5
    have J5:=qD hJ5
    clear q0 q1 q2 q3 q4 HAP hok hJ5 J4 JB2
    obtain⟨b',off',hB,hbB,hel⟩:=HD.out.el (by omega)
    have hde:=hel i false (by rw[List.getElem?_replicate,if_pos hlt]) 0 _ rfl
    have hde2:=(J5.out.bel.cell (p:=⟨b',off'+i*1+0,none⟩) hbB).trans hde
    rw[Nat.mul_one,Nat.add_zero] at hde2
    subst hB
    clear hel hde
    obtain⟨A3,c3,hv3,hlc3⟩:=own_slice J5.out.own
    subst hv3
    go_wp2_with fail
    go_roundw
    case rel=>exact⟨i+1,_,hlt,by go_num,HAS.out,J5.out⟩
    case measure=>simp[intOf];omega
  ·obtain rfl:i=n:=by omega
   have hTK:(ps.map Prod.snd).take i=ps.map Prod.snd:=List.take_of_length_le (by rw[List.length_map];have:=HL.out;omega)
   have hal:=HAL.out
   have hln:=J2.out.ln
   have hcv:=own_str J2.out.own J2.out.ln
   rw[hTK] at hal hcv
   obtain⟨Z,hZ⟩:∃Z,Z=strOfNums (encAll (ps.map Prod.snd)):=⟨_,rfl⟩
   rw[←hZ] at hcv
   have HK:Hid (keyR (ps.map Prod.snd)=(Z,0)):=by rw[hZ];exact keyR_yes hal
   clear hTK hal hln hZ
   go_wp2_with fail
   go_ret2
   exact⟨by rw[HK.out];rfl,J2.out.bel⟩
def crcStep(r:Nat):Nat:=if r%2=1 then(r/2) ^^^ 2197175160 else r/2
def crcSteps(r:Nat):Nat→Nat
 | 0=>r
 | k+1=>crcStep (crcSteps r k)
def crcByte(r b:Nat):Nat:=crcSteps (r ^^^ b) 8
def crcL(r:Nat)(l:List UInt8):Nat:=l.foldl (fun r x=>crcByte r x.toNat) r
def crcSum(s:ByteArray):Nat:=crcL 4294967295 s.data.toList ^^^ 4294967295
theorem xor32{a b:Nat}(ha:a<4294967296)(hb:b<4294967296):a ^^^ b<4294967296:=Nat.xor_lt_two_pow (n:=32) ha hb
theorem crcStep_lt{r:Nat}(h:r<4294967296):crcStep r<4294967296:=by
 unfold crcStep
 split
 ·exact xor32 (by omega) (by omega)
 ·omega
theorem crcSteps_lt{r:Nat}(h:r<4294967296):∀k,crcSteps r k<4294967296
 | 0=>h
 | k+1=>crcStep_lt (crcSteps_lt h k)
theorem crcByte_lt{r b:Nat}(h:r<4294967296)(hb:b<256):crcByte r b<4294967296:=crcSteps_lt (xor32 h (by omega)) 8
theorem crcL_lt(l:List UInt8):∀{r:Nat},r<4294967296→crcL r l<4294967296:=by
 induction l with
 | nil=>intro r h;exact h
 | cons x l ih=>
  intro r h
  exact ih (crcByte_lt h (by have:=x.toNat_lt;omega))
theorem crcSum_lt(s:ByteArray):crcSum s<4294967296:=by
 unfold crcSum
 exact xor32 (crcL_lt _ (by omega)) (by omega)
theorem crcL_snoc{r:Nat}{l:List UInt8}{i:Nat}{x:UInt8}(h:l[i]?=some x):crcL r (l.take (i+1))=crcByte (crcL r (l.take i)) x.toNat:=by
 unfold crcL
 rw[List.take_add_one,h,List.foldl_append]
 simp only[Option.toList,List.foldl_cons,List.foldl_nil]
theorem ofInt_u32(a:Nat)(ha:a<4294967296):(BitVec.ofInt 32 (a:Int)).toNat=a:=by
 rw[BitVec.ofInt_natCast,BitVec.toNat_ofNat];exact Nat.mod_eq_of_lt (by omega)
theorem u32_and_one(a:Nat)(ha:a<4294967296):bits .and .u32 (a:Int) 1=((a%2:Nat):Int):=by
 have e:(BitVec.ofInt 32 (1:Int)).toNat=1:=by decide
 show IntKind.u32.wrap ((BitVec.ofInt 32 (a:Int)&&& BitVec.ofInt 32 (1:Int)).toNat:Int)=_
 rw[BitVec.toNat_and,ofInt_u32 a ha,e,Nat.and_one_is_mod,IntKind.wrap_u32]
 omega
theorem u32_xor_nat(a b:Nat)(ha:a<4294967296)(hb:b<4294967296):bits .xor .u32 (a:Int) (b:Int)=((a ^^^ b:Nat):Int):=by
 have hx:=xor32 ha hb
 show IntKind.u32.wrap ((BitVec.ofInt 32 (a:Int) ^^^ BitVec.ofInt 32 (b:Int)).toNat:Int)=_
 rw[BitVec.toNat_xor,ofInt_u32 a ha,ofInt_u32 b hb,IntKind.wrap_u32]
 omega
theorem dsize'(t:ByteArray):t.data.toList.length=t.size:=by rw[Array.length_toList];rfl
theorem half_nat(r:Nat):(r:Int)/2=((r/2:Nat):Int):=by omega
theorem wrapu32{a:Nat}(h:a<4294967296):IntKind.u32.wrap (a:Int)=(a:Int):=by rw[IntKind.wrap_u32];omega
theorem mod2_ways(r:Nat):(r%2=1∧crcStep r=(r/2) ^^^ 2197175160)∨(r%2=0∧crcStep r=r/2):=by
 unfold crcStep
 rcases Nat.mod_two_eq_zero_or_one r with h|h
 ·exact .inr ⟨h,by rw[if_neg (by omega)]⟩
 ·exact .inl ⟨h,by rw[if_pos h]⟩
theorem step_facts{r:Nat}(hr:r<4294967296):∃o h c:Nat,bits .and .u32 (r:Int) 1=(o:Int)∧(r:Int)/2=(h:Int)∧IntKind.u32.wrap (h:Int)=(h:Int)∧bits .xor .u32 (h:Int) 2197175160=(c:Int)∧h<4294967296∧((o=1∧crcStep r=c)∨(o=0∧crcStep r=h)):=by
 refine⟨r%2,r/2,(r/2) ^^^ 2197175160,u32_and_one r hr,half_nat r,wrapu32 (by omega),u32_xor_nat (r/2) 2197175160 (by omega) (by omega),by omega,?_⟩
 rcases mod2_ways r with⟨h1,h2⟩|⟨h1,h2⟩
 ·exact .inl ⟨h1,h2⟩
 ·exact .inr ⟨h1,h2⟩
theorem crc_any(s:ByteArray)(w:World)(hs:s.size≤140737488355328):Calls Tryz.prog 109 #[.string s] w fun e w'=>e=.returned (.int .u32 ((crcSum s:Nat):Int))∧w'=w:=by
 go_enter Tryz.func109,Tryz.ntmps109
 go_upto_region 3 with fail
 go_loopw [3,4,5,8,17] (fun u3 _ _ u8 _ wr=>∃i:Nat,i≤s.size∧u8=.int .i64 i∧u3=.int .u32 ((crcL 4294967295 (s.data.toList.take i):Nat):Int)∧wr=w) (fun _ _ _ u8 _ _=>s.size-(intOf u8).toNat)
 case atStart=>exact⟨0,Nat.zero_le _,rfl,rfl,rfl⟩
 case round=>
  obtain⟨i,hi,rfl,rfl,rfl⟩:=hrel
  have hlt32:=crcL_lt (s.data.toList.take i) (r:=4294967295) (by omega)
  obtain⟨r,hr⟩:∃r,r=crcL 4294967295 (s.data.toList.take i):=⟨_,rfl⟩
  rw[←hr] at hlt32 ⊢
  have HR:=qD hr
  clear hr
  have sz:(s.size:Int)≤140737488355328:=by omega
  have i0:(0:Int)≤(i:Int):=by omega
  by_cases hlt:i<s.size
  ·have hx:=s[i].toNat_lt
   have HSN:=qD (crcL_snoc (r:=4294967295) (bytes_at s i hlt))
   obtain⟨b,hb⟩:∃b,b=s[i].toNat:=⟨_,rfl⟩
   have hbw:IntKind.u32.wrap (s[i].toNat:Int)=(b:Int):=by rw[hb];exact wrapu32 (by omega)
   have hxr:=u32_xor_nat r b hlt32 (by omega)
   obtain⟨r0,hr0⟩:∃r0,r0=r ^^^ b:=⟨_,rfl⟩
   have hr0l:r0<4294967296:=by rw[hr0];exact xor32 hlt32 (by omega)
   rw[←hr0] at hxr
   have i1:(i:Int)<(s.size:Int):=by omega
   have HNX:Hid (crcL 4294967295 (s.data.toList.take (i+1))=crcSteps r0 8):=by
    refine HSN.out.trans ?_
    rw[hr0,HR.out,hb]
    rfl
   have HR0:=qD hr0l
   clear hb hr0
   go_upto_region 7 with fail
   clear hxr hbw hx hr0l HSN
   go_loopw [3,5,17] (fun u3 _ u17 wx=>∃k:Nat,k≤8∧u17=.int .i64 k∧u3=.int .u32 ((crcSteps r0 k:Nat):Int)∧wx=wr) (fun _ _ u17 _=>9-(intOf u17).toNat)
   case atStart=>exact⟨0,Nat.zero_le _,rfl,rfl,rfl⟩
   case round=>
    obtain⟨k,hk,rfl,rfl,rfl⟩:=hrel
    have hl:=crcSteps_lt HR0.out k
    have hstep:crcSteps r0 (k+1)=crcStep (crcSteps r0 k):=rfl
    obtain⟨r1,hr1⟩:∃r1,r1=crcSteps r0 k:=⟨_,rfl⟩
    rw[←hr1] at hl hstep ⊢
    have HR1:=qD hr1
    have HST:=qD hstep
    clear hr1 hstep
    by_cases hk8:k<8
    ·obtain⟨o,h,c,f1,f2,f3,f4,f5,f6⟩:=step_facts hl
     have HL:=qD hl
     have k0:(0:Int)≤(k:Int):=by omega
     clear hl
     rcases f6 with⟨rfl,f7⟩|⟨rfl,f7⟩
     ·have HF:=qD f7
      clear f7
      go_wp2_with fail
      go_roundw
      case rel=>exact⟨k+1,hk8,by go_num,by rw[HST.out,HF.out],trivial⟩
      case measure=>simp[intOf];omega
     ·have HF:=qD f7
      clear f7
      go_wp2_with fail
      go_roundw
      case rel=>exact⟨k+1,hk8,by go_num,by rw[HST.out,HF.out],trivial⟩
      case measure=>simp[intOf];omega
    ·obtain rfl:k=8:=by omega
     go_wp2_with fail
     go_roundw
     case rel=>exact⟨i+1,hlt,by go_num,by rw[HNX.out,←HR1.out],trivial⟩
     case measure=>simp[intOf];omega
  ·obtain rfl:i=s.size:=by omega
   have hTK:s.data.toList.take s.size=s.data.toList:=List.take_of_length_le (by rw[dsize'];exact qL)
   have HX:Hid (bits .xor .u32 IntKind.u32.max (r:Int)=((crcSum s:Nat):Int)):=by
    have e:=u32_xor_nat 4294967295 r (by omega) hlt32
    rw[Nat.xor_comm] at e
    unfold Hid crcSum
    rw[←hTK,←HR.out]
    exact e
   clear hTK
   go_wp2_with fail
   go_ret
   exact⟨by rw[←HX.out];rfl,rfl⟩
theorem rcrc_any(s:ByteArray)(w:World)(hs:s.size≤140737488355328):Calls Tryz.prog 118 #[.string s] w fun e w'=>e=.returned (.int .u32 ((crcSum s:Nat):Int))∧w'=w:=by
 go_enter Tryz.func118,Tryz.ntmps118
 go_upto_region 3 with fail
 go_loopw [3,4,5,6] (fun u3 u8 _ _ wr=>∃i:Nat,i≤s.size∧u8=.int .i64 i∧u3=.int .u32 ((crcL 4294967295 (s.data.toList.take i):Nat):Int)∧wr=w) (fun _ u8 _ _ _=>s.size-(intOf u8).toNat)
 case atStart=>exact⟨0,Nat.zero_le _,rfl,rfl,rfl⟩
 case round=>
  obtain⟨i,hi,rfl,rfl,rfl⟩:=hrel
  have hlt32:=crcL_lt (s.data.toList.take i) (r:=4294967295) (by omega)
  obtain⟨r,hr⟩:∃r,r=crcL 4294967295 (s.data.toList.take i):=⟨_,rfl⟩
  rw[←hr] at hlt32 ⊢
  have HR:=qD hr
  clear hr
  have sz:(s.size:Int)≤140737488355328:=by omega
  have i0:(0:Int)≤(i:Int):=by omega
  by_cases hlt:i<s.size
  ·have hx:=s[i].toNat_lt
   have HSN:=qD (crcL_snoc (r:=4294967295) (bytes_at s i hlt))
   obtain⟨b,hb⟩:∃b,b=s[i].toNat:=⟨_,rfl⟩
   have hbw:IntKind.u32.wrap (s[i].toNat:Int)=(b:Int):=by rw[hb];exact wrapu32 (by omega)
   have hxr:=u32_xor_nat r b hlt32 (by omega)
   obtain⟨r0,hr0⟩:∃r0,r0=r ^^^ b:=⟨_,rfl⟩
   have hr0l:r0<4294967296:=by rw[hr0];exact xor32 hlt32 (by omega)
   rw[←hr0] at hxr
   have i1:(i:Int)<(s.size:Int):=by omega
   have HNX:Hid (crcL 4294967295 (s.data.toList.take (i+1))=crcSteps r0 8):=by
    refine HSN.out.trans ?_
    rw[hr0,HR.out,hb]
    rfl
   have HR0:=qD hr0l
   clear hb hr0
   go_upto_region 7 with fail
   clear hxr hbw hx hr0l HSN
   go_loopw [3,5,6] (fun u3 u17 _ wx=>∃k:Nat,k≤8∧u17=.int .i64 k∧u3=.int .u32 ((crcSteps r0 k:Nat):Int)∧wx=wr) (fun _ u17 _ _=>9-(intOf u17).toNat)
   case atStart=>exact⟨0,Nat.zero_le _,rfl,rfl,rfl⟩
   case round=>
    obtain⟨k,hk,rfl,rfl,rfl⟩:=hrel
    have hl:=crcSteps_lt HR0.out k
    have hstep:crcSteps r0 (k+1)=crcStep (crcSteps r0 k):=rfl
    obtain⟨r1,hr1⟩:∃r1,r1=crcSteps r0 k:=⟨_,rfl⟩
    rw[←hr1] at hl hstep ⊢
    have HR1:=qD hr1
    have HST:=qD hstep
    clear hr1 hstep
    by_cases hk8:k<8
    ·obtain⟨o,h,c,f1,f2,f3,f4,f5,f6⟩:=step_facts hl
     have HL:=qD hl
     have k0:(0:Int)≤(k:Int):=by omega
     clear hl
     rcases f6 with⟨rfl,f7⟩|⟨rfl,f7⟩
     ·have HF:=qD f7
      clear f7
      go_wp2_with fail
      go_roundw
      case rel=>exact⟨k+1,hk8,by go_num,by rw[HST.out,HF.out],trivial⟩
      case measure=>simp[intOf];omega
     ·have HF:=qD f7
      clear f7
      go_wp2_with fail
      go_roundw
      case rel=>exact⟨k+1,hk8,by go_num,by rw[HST.out,HF.out],trivial⟩
      case measure=>simp[intOf];omega
    ·obtain rfl:k=8:=by omega
     go_wp2_with fail
     go_roundw
     case rel=>exact⟨i+1,hlt,by go_num,by rw[HNX.out,←HR1.out],trivial⟩
     case measure=>simp[intOf];omega
  ·obtain rfl:i=s.size:=by omega
   have hTK:s.data.toList.take s.size=s.data.toList:=List.take_of_length_le (by rw[dsize'];exact qL)
   have HX:Hid (bits .xor .u32 (r:Int) 4294967295=((crcSum s:Nat):Int)):=by
    have e:=u32_xor_nat r 4294967295 hlt32 (by omega)
    unfold Hid crcSum
    rw[←hTK,←HR.out]
    exact e
   clear hTK
   go_wp2_with fail
   go_ret
   exact⟨by rw[←HX.out];rfl,rfl⟩
noncomputable def hashV(x:Val):Int:=if allowB x then((crcSum (strOfNums (encV x)):Nat):Int) else 0
theorem keyR_one_yes{x:Val}(h:allowB x=true):keyR [x]=(strOfNums (encV x),0):=by
 have e:encAll [x]=encV x:=by simp[encAll]
 rw[keyR_yes (by simp[allowsB,h]),e]
theorem keyR_one_no{x:Val}(h:allowB x=false):keyR [x]=(ByteArray.empty,8):=keyR_no (i:=0) rfl h
theorem sl_one{w:World}{g:Nat}{c:VC}{x:Val}(h:Blk w g 45 c.arr)(hr:RW w c x):SL (fun _=>True) w (some ⟨g,0,none⟩) 1 1 [(c,x)]:=by
 refine⟨⟨rfl,qL,fun _=>⟨g,0,rfl,h.lt,fun i a hi j v hj=>?_⟩⟩,by decide,fun _=>⟨g,0,rfl,Ft.top⟩,fun p hp=>?_⟩
 ·cases i with
  | zero=>
   simp at hi
   subst hi
   have:=vat_cell (VAt.of_blk h) j v hj
   simpa using this
  | succ i=>simp at hi
 ·simp at hp
  subst hp
  exact hr
theorem sx_one{w:World}{g:Nat}{t:TypeId}(h:Blk w g t #[.bool false]):SR 1 recX w (some ⟨g,0,none⟩) 1 1 (List.replicate 1 false):=by
 refine⟨rfl,qL,fun _=>⟨g,0,rfl,h.lt,fun i a hi j v hj=>?_⟩⟩
 cases i with
 | zero=>
  simp at hi
  subst hi
  cases j with
  | zero=>simp[recX] at hj;subst hj;exact h.cell 0
  | succ j=>simp[recX] at hj
 | succ i=>simp at hi
theorem code_any(x:Val)(c:VC)(w:World)(hT:Tabs w)(h:RW w c x):
 Calls Tryz.prog 108 #[c.val] w fun e w'=>e=.returned (.tuple #[.string (keyR [x]).1,.int .i64 (keyR [x]).2])∧Below w.heap.size w w':=by
 have H:=qD h
 have HT:=qD hT
 have BE:Hid (Below w.heap.size w (((w.alloc (.cells c.arr 45)).alloc (.cells c.arr 45)).alloc (.cells #[.bool false] 4))):=(((Below.refl _ _).alloc (qL) _).alloc (by simp) _).alloc (by simp;omega) _
 have B1:Hid (Blk (((w.alloc (.cells c.arr 45)).alloc (.cells c.arr 45)).alloc (.cells #[.bool false] 4)) (w.heap.size+1) 45 c.arr):=(Blk.new_at (by simp)).alloc _
 have B2:Hid (Blk (((w.alloc (.cells c.arr 45)).alloc (.cells c.arr 45)).alloc (.cells #[.bool false] 4)) (w.heap.size+2) 4 #[.bool false]):=Blk.new_at (by simp)
 obtain⟨wb,hwb⟩:∃wb,wb=(((w.alloc (.cells c.arr 45)).alloc (.cells c.arr 45)).alloc (.cells #[.bool false] 4)):=⟨_,rfl⟩
 rw[←hwb] at BE B1 B2
 have HC:=qD (encode_any [(c,x)] (some ⟨w.heap.size+1,0,none⟩) (some ⟨w.heap.size+2,0,none⟩) 1 1 1 wb (HT.out.step BE.out) (sl_one B1.out (H.out.step BE.out)) (sx_one B2.out) (by omega))
 rw[hwb] at HC
 have HWB:=qD hwb
 clear h hT hwb
 simp only[List.map_cons,List.map_nil] at HC
 obtain⟨K,hK⟩:∃K,keyR [x]=K:=⟨_,rfl⟩
 rw[hK] at HC ⊢
 clear hK
 obtain⟨K1,K2⟩:=K
 go_enter Tryz.func108,Tryz.ntmps108
 go_wp2_with fail
 refine HC.out.mono ?_
 rintro e w1 ⟨rfl,hb⟩
 rw[←HWB.out] at hb
 have CE:=qD (BE.out.step' hb)
 clear hb HC B1 B2
 go_wp2_with fail
 go_ret2
 exact⟨rfl,CE.out⟩
theorem hash_any(x:Val)(c:VC)(w:World)(hT:Tabs w)(h:RW w c x):
 Calls Tryz.prog 82 #[c.val] w fun e w'=>e=.returned (.int .i64 (hashV x))∧Below w.heap.size w w':=by
 have H:=qD h
 have B0:Hid (Blk (w.alloc (.cells c.arr 45)) w.heap.size 45 c.arr):=Blk.new_at rfl
 have BE:Hid (Below w.heap.size w (w.alloc (.cells c.arr 45))):=(Below.refl _ _).alloc (qL) _
 have HC:=qD fun(w1:World) (hb:Below w.heap.size w w1)=>code_any x c w1 (hT.step hb) (h.step hb)
 clear h hT
 go_enter Tryz.func82,Tryz.ntmps82
 go_upto_region 1 with fail
 change (Code.region 1 _ _).wp _ _ _ (w.alloc (.cells c.arr 45))
 generalize w.alloc (.cells c.arr 45)=wa at*
 obtain⟨q0,q1,q2,q3,q4⟩:=VAt.of_blk B0.out
 simp only[Nat.zero_add] at q0 q1 q2 q3 q4
 have HCA:=qD (HC.out wa BE.out)
 cases hA:allowB x
 ·have HV:Hid (hashV x=0):=by unfold Hid hashV;rw[hA];rfl
  rw[keyR_one_no hA] at HCA
  clear hA HC
  go_wp2_with fail
  refine HCA.out.mono ?_
  rintro e w1 ⟨rfl,hb⟩
  have CE:=qD (BE.out.step' hb)
  clear q0 q1 q2 q3 q4 hb HCA B0
  go_wp2_with fail
  go_ret
  exact⟨by rw[HV.out];rfl,CE.out⟩
 ·have HV:Hid (hashV x=((crcSum (strOfNums (encV x)):Nat):Int)):=by unfold Hid hashV;rw[hA];rfl
  have hz:=(allow_enc hA).2
  have hzz:(strOfNums (encV x)).size≤140737488355328:=by rw[strOfNums_size];omega
  rw[keyR_one_yes hA] at HCA
  have hlt:=crcSum_lt (strOfNums (encV x))
  obtain⟨S,hS⟩:∃S,S=strOfNums (encV x):=⟨_,rfl⟩
  rw[←hS] at HCA HV hzz hlt
  have HZ:=qD hzz
  obtain⟨q,hq⟩:∃q,q=crcSum S:=⟨_,rfl⟩
  rw[←hq] at HV hlt
  have HQ:=qD hq
  have qz:(q:Int)<4294967296:=by omega
  clear hA HC hS hz hzz hlt hq
  go_wp2_with fail
  refine HCA.out.mono ?_
  rintro e w1 ⟨rfl,hb⟩
  have CE:=qD (BE.out.step' hb)
  clear q0 q1 q2 q3 q4 hb HCA B0
  go_wp2_with fail
  refine(crc_any S w1 HZ.out).mono ?_
  rintro e w2 ⟨rfl,rfl⟩
  rw[←HQ.out]
  go_wp2_with fail
  go_ret
  exact⟨by rw[HV.out];rfl,CE.out⟩
noncomputable def intH(y:Val):Val:=.mk 3 (hashV y) ByteArray.empty [] []
noncomputable def intC(y:Val):VC:=⟨3,hashV y,ByteArray.empty,none,0,0,none,0,0⟩
theorem rv_int{F:Nat→Prop}{w:World}(y:Val):RV F w (intC y) (intH y):=
 RVs.shut ⟨rfl,rfl,rfl,by show 0≤reach;decide,rfl,qL,by show 0*80≤reach;decide,fun h=>absurd h (by show ¬(0<0);omega),rfl,qL,by show 0*96≤reach;decide,fun h=>absurd h (by show ¬(0<0);omega)⟩
noncomputable def hashes(ha:Bool)(ys:List Val):List Val:=if ha then ys.map intH else ys
noncomputable def encR(ks:List Od)(ha:Bool)(x:Val):ByteArray×Int:=match valsR ks x with
 | none=>(ByteArray.empty,8)
 | some ys=>keyR (hashes ha ys)
theorem encR_none{ks:List Od}{ha:Bool}{x:Val}(h:valsR ks x=none):encR ks ha x=(ByteArray.empty,8):=by rw[encR,h]
theorem encR_some{ks:List Od}{ha:Bool}{x:Val}{ys:List Val}(h:valsR ks x=some ys):encR ks ha x=keyR (hashes ha ys):=by rw[encR,h]
theorem hashes_yes(ys:List Val)(y:Val):hashes true (ys++[y])=hashes true ys++[intH y]:=by simp[hashes]
theorem hashes_no(ys:List Val):hashes false ys=ys:=rfl
theorem hashes_len(ha:Bool)(ys:List Val):(hashes ha ys).length=ys.length:=by cases ha<;>simp[hashes]
theorem kinfo_bool:(Tryz.prog.info? 4).map (fun i=>(i.zero,i.size,i.bytes))=some (some (.bool false),1,1):=by kernel_rfl
theorem sx_made(w:World)(n:Nat):SR 1 recX (w.alloc (.cells (madeCells #[.bool false] n) 4)) (some ⟨w.heap.size,0,none⟩) n n (List.replicate n false):=by
 refine⟨by simp,qL,fun _=>⟨w.heap.size,0,rfl,by simp,fun i a hi j v hj=>?_⟩⟩
 cases j with
 | zero=>
  rw[Blk.cell (Blk.new _ _ _)]
  rw[List.getElem?_replicate] at hi
  split at hi
  ·rename_i hl
   cases hi
   simp[recX] at hj
   subst hj
   simp[madeCells,hl,Nat.mod_one]
  ·cases hi
 | succ j=>simp[recX] at hj
theorem senc_any(ks:List Od)(ha:Bool)(A:Option Addr)(n cc:Nat)(x:Val)(c:VC)(w:World)(hT:Tabs w)(hk:KS w A n cc ks)(hx:RW w c x)(h8:ks.length≤8):
 Calls Tryz.prog 55 #[.agg #[.slice A n cc,.bool ha],c.val] w fun e w'=>e=.returned (.tuple #[.string (encR ks ha x).1,.int .i64 (encR ks ha x).2])∧Below w.heap.size w w':=by
 obtain⟨i0,hi0,hy0,hy1,hy2⟩:=info_parts info_value
 have HT:=qD hT
 have HN:=qD hk.ln
 have HX:=qD hx
 have HK:=qD hk
 have HKX:Hid (c.k=x.k):=hx.open.k
 have hn8:n≤8:=by have:=HN.out;omega
 have I0:Hid (VlI w #[.slice A n cc,.bool ha] c (.slice none 0 0) [] ((w.alloc (.cells #[.slice A n cc,.bool ha] 24)).alloc (.cells c.arr 45))):=VlI.start
 clear hk hx hT
 go_enter Tryz.func55,Tryz.ntmps55
 go_upto_region 1 with fail
 change Code.wp _ _ _ _ ((w.alloc (.cells #[.slice A n cc,.bool ha] 24)).alloc (.cells c.arr 45))
 generalize ((w.alloc (.cells #[.slice A n cc,.bool ha] 24)).alloc (.cells c.arr 45))=wa at*
 obtain⟨a0,a1,a2,a3,a4⟩:=VAt.of_blk I0.out.b1
 simp only[Nat.zero_add] at a0 a1 a2 a3 a4
 by_cases h5:c.k=5
 rotate_left
 ·have h5b:(c.k != 5)=true:=by simp[h5]
  have HV:Hid (encR ks ha x=(ByteArray.empty,8)):=encR_none (valsR_kind (by rw[←HKX.out];exact h5))
  clear h5
  go_wp2_with fail
  go_ret2
  exact⟨by rw[HV.out];rfl,I0.out.vs.bel⟩
 have h5b:(c.k != 5)=false:=by simp[h5]
 have HX5:Hid (x.k=5):=by unfold Hid;rw[←HKX.out];exact h5
 clear h5
 have hva:=qD (valid_any x c wa (HT.out.step I0.out.vs.bel) (HX.out.step I0.out.vs.bel))
 cases hv:validV x
 ·have HV:Hid (encR ks ha x=(ByteArray.empty,8)):=encR_none (valsR_bad hv)
  rw[hv] at hva
  clear hv
  go_wp2_with fail
  refine hva.out.mono ?_
  rintro e w1 ⟨rfl,hb⟩
  have I1:=qD (I0.out.step hb)
  clear hva hb a0 a1 a2 a3 a4
  go_wp2_with fail
  go_ret2
  exact⟨by rw[HV.out];rfl,I1.out.vs.bel⟩
 have HVX:Hid (valsR ks x=valsAt x ks):=valsR_yes HX5.out hv
 rw[hv] at hva
 clear hv
 go_wp2_with fail
 refine hva.out.mono ?_
 rintro e w1 ⟨rfl,hb⟩
 have I1:=qD (I0.out.step hb)
 clear hva hb a0 a1 a2 a3 a4 I0
 have k0:=I1.out.b0.cell 0
 simp at k0
 go_upto_region 5 with fail
 clear k0
 go_loopw [6,8,9,10,22] (fun u6 _ _ _ u22 wr=>∃(i:Nat) (ys:List Val) (ps:List PV),i≤n∧ys.length=i∧ps.map Prod.snd=hashes ha ys∧u22=.int .i64 i∧valsAt x ks=(valsAt x (ks.drop i)).map (ys++·)∧VlI w #[.slice A n cc,.bool ha] c u6 ps wr) (fun _ _ _ _ u22 _=>n-(intOf u22).toNat)
 case atStart=>exact⟨0,[],[],Nat.zero_le _,rfl,by cases ha<;>rfl,rfl,by simp,I1.out⟩
 case round=>
  obtain⟨i,ys,ps,hi,hyl,hps,rfl,hall,J⟩:=hrel
  have HYL:=qD hyl
  have HPS:=qD hps
  have HPL:Hid (ps.length=i):=by have:=congrArg List.length hps;rw[List.length_map,hashes_len,hyl] at this;exact this
  have HA:=qD hall
  have J2:=qD J
  clear hyl hps hall J I1
  by_cases hlt:i<n
  ·obtain⟨os,hos⟩:=HK.out
   obtain⟨b,off,o,hA,hb,ho,e0,e1⟩:=hos.sr.at2 hlt
   subst hA
   obtain⟨q,hq⟩:∃q,ks[i]?=some q:=⟨_,List.getElem?_eq_getElem (by have:=HN.out;omega)⟩
   have HOR:=qD (hos.el i o q ho hq)
   have HVA:=qD (valsAt_at (x:=x) hq)
   have ew:=(J2.out.vs.bel.cell (p:=⟨b,off+i*2,none⟩) hb).trans e0
   have ew1:=(J2.out.vs.bel.cell (p:=⟨b,off+i*2+1,none⟩) hb).trans e1
   have hbw:b<wr.heap.size:=Nat.lt_of_lt_of_le hb J2.out.vs.bel.size
   have i0':(0:Int)≤(i:Int):=by omega
   have i1':(i:Int)<(n:Int):=by omega
   clear hos ho hq e0 e1
   go_upto_region 7 with fail
   change Code.wp _ _ _ _ (wr.alloc (.cells #[.slice o.A o.n o.c,.bool o.d] 93))
   have JB:Hid (Blk (wr.alloc (.cells #[.slice o.A o.n o.c,.bool o.d] 93)) wr.heap.size 93 #[.slice o.A o.n o.c,.bool o.d]):=Blk.new_at rfl
   have J3:=qD (J2.out.step ((Below.refl wr.heap.size wr).alloc (qL) (Obj.cells #[.slice o.A o.n o.c,.bool o.d] 93)))
   generalize wr.alloc (.cells #[.slice o.A o.n o.c,.bool o.d] 93)=wb at*
   generalize wr.heap.size=ga at*
   clear ew ew1 hbw J2
   obtain⟨a0,a1,a2,a3,a4⟩:=VAt.of_blk J3.out.b1
   simp only[Nat.zero_add] at a0 a1 a2 a3 a4
   have o0:=JB.out.cell 0
   simp at o0
   have HAT:=qD (at_any (F:=fun b=>b<w.heap.size) x c o.A o.n o.c q.p wb ((HX.out.lt.mono fun b hb=>hb.2).keep fun b hb=>J3.out.vs.bel.block b hb) (HOR.out.st.step J3.out.vs.bel))
   go_wp2_with fail
   refine HAT.out.mono ?_
   rintro e w2 ⟨c9,rfl,hr,hb⟩
   have J4:=qD (J3.out.step hb)
   have HR9:Hid (∀y,keyAt x q.p=some y→RV (fun b=>Value.ownBlock u6≠some b) w2 c9 y):=fun y hy=>(hr y hy).mono fun b hb=>J3.out.vs.far hb
   clear hr hb HAT a0 a1 a2 a3 a4 o0 JB J3
   cases hg:keyAt x q.p with
   | none=>
    have HV:Hid (encR ks ha x=(ByteArray.empty,8)):=encR_none (by rw[HVX.out,HA.out,HVA.out,hg];rfl)
    have J5:=qD (J4.out.step ((Below.refl w2.heap.size w2).alloc (qL) (Obj.cells c9.arr 45)))
    clear hg
    go_wp2_with fail
    go_ret2
    exact⟨by rw[HV.out];rfl,J5.out.vs.bel⟩
   | some y=>
    have HRY:=qD (HR9.out y hg)
    have HV:Hid (valsAt x ks=(valsAt x (ks.drop (i+1))).map ((ys++[y])++·)):=by
     unfold Hid
     rw[HA.out,HVA.out,hg]
     simp[Option.map_map,Function.comp_def]
    clear hg HR9
    have hlo2:w.heap.size≤w2.heap.size:=J4.out.vs.bel.size
    have NE:Hid (Value.ownBlock u6≠some w2.heap.size):=J4.out.vs.far (.inr (qL))
    have NG:Hid (w.heap.size+2≤w2.heap.size):=J4.out.sz
    go_upto_region 10 with fail
    change Code.wp _ _ _ _ (w2.alloc (.cells c9.arr 45))
    have JB:Hid (Blk (w2.alloc (.cells c9.arr 45)) w2.heap.size 45 c9.arr):=Blk.new_at rfl
    have J5:=qD (J4.out.step ((Below.refl w2.heap.size w2).alloc (qL) (Obj.cells c9.arr 45)))
    have HR5:=qD (HRY.out.alloc (.cells c9.arr 45))
    have BE5:Hid (Below w2.heap.size w2 (w2.alloc (.cells c9.arr 45))):=(Below.refl w2.heap.size w2).alloc (qL) (Obj.cells c9.arr 45)
    generalize w2.alloc (.cells c9.arr 45)=w3 at*
    have BE5:Hid (Below w2.heap.size w2 w3):=BE5
    generalize hG9:w2.heap.size=g9 at*
    have HG9:=qD hG9
    clear hG9 NE NG
    have k1:=J5.out.b0.cell 1
    simp at k1
    have hpi:ps.length≤8:=by have:=HPL.out;omega
    clear HRY
    cases ha
    ·obtain⟨g0,g1,g2,g3,g4⟩:=VAt.of_blk JB.out
     simp only[Nat.zero_add] at g0 g1 g2 g3 g4
     have hlo:w.heap.size≤w3.heap.size:=J5.out.vs.bel.size
     have LK:=qD (J5.out.step ((Below.refl w3.heap.size w3).alloc (qL) (Obj.cells c9.arr 45)))
     have HRZ:=qD (HR5.out.alloc (.cells c9.arr 45))
     go_wp2_with (at_builtin;refine wpList_append_any _ rfl _ _ 42 rfl w.heap.size 45 i0 VC.zero.val 5 80 Tryz.underlying42 hi0 hy0 hy1 hy2 rfl (by decide) u6 ps.length (flat recV ps) rfl LK.out.vs.own _ _ 1 _ (recV (c9,y)) rfl ⟨rfl,fun _=>⟨_,rfl,Nat.lt_succ_self _,news_at _ _ _⟩⟩ (recV_one _) (by unfold maxLen;omega) (by omega) (alloc_le hlo _) ?_)
     intro v' w4 hown hgr hat
     have HI:=qD (LK.out.add (p:=(c9,y)) HRZ.out rfl hown hgr (by rw[size_alloc];exact hat))
     clear hown hgr hat LK HRZ g0 g1 g2 g3 g4 HR5 JB J5 k1
     go_wp2_with fail
     go_roundw
     case rel=>exact⟨i+1,ys++[y],ps++[(c9,y)],hlt,by rw[List.length_append,HYL.out];rfl,by rw[List.map_append,HPS.out];rfl,by go_num,by rw[HV.out],HI.out⟩
     case measure=>simp[intOf];omega
    ·obtain⟨g0,g1,g2,g3,g4⟩:=VAt.of_blk JB.out
     simp only[Nat.zero_add] at g0 g1 g2 g3 g4
     have HHA:=qD (hash_any y c9 w3 (HT.out.step J5.out.vs.bel) (HR5.out.mono fun _ _=>trivial))
     go_wp2_with fail
     refine HHA.out.mono ?_
     rintro e w4 ⟨rfl,hb⟩
     have J6:=qD (J5.out.step hb)
     have hb4:=qD hb
     have JB2:=qD (JB.out.step hb)
     clear g0 g1 g2 g3 g4 hb HHA HR5 JB J5 k1
     obtain⟨g0,g1,g2,g3,g4⟩:=VAt.of_blk JB2.out
     simp only[Nat.zero_add] at g0 g1 g2 g3 g4
     have gz:=JB2.out.frozen
     obtain⟨hh,hhe⟩:∃h,hashV y=h:=⟨_,rfl⟩
     rw[hhe]
     have HHE:=qD hhe
     clear hhe
     go_upto_region 12 with fail
     have BE6:Hid (Below w2.heap.size w2 (setV w4 g9 0 ⟨3,hh,ByteArray.empty,none,0,0,none,0,0⟩)):=by
      have h5:=BE5.out
      rw[←HG9.out] at h5
      exact below_setV (h5.step' hb4.out) (by rw[HG9.out];exact qL) 0 _
     have J7:=qD (J4.out.step BE6.out)
     have JB3:=qD (JB2.out.putV ⟨3,hh,ByteArray.empty,none,0,0,none,0,0⟩)
     change Code.wp _ _ _ _ (setV w4 g9 0 ⟨3,hh,ByteArray.empty,none,0,0,none,0,0⟩)
     generalize setV w4 g9 0 ⟨3,hh,ByteArray.empty,none,0,0,none,0,0⟩=w5 at*
     clear g0 g1 g2 g3 g4 gz BE6 BE5 J6 JB2 hb4 J4
     obtain⟨g0,g1,g2,g3,g4⟩:=VAt.of_blk JB3.out
     simp only[Nat.zero_add] at g0 g1 g2 g3 g4
     have hlo:w.heap.size≤w5.heap.size:=J7.out.vs.bel.size
     have LK:=qD (J7.out.step ((Below.refl w5.heap.size w5).alloc (qL) (Obj.cells (VC.arr ⟨3,hh,ByteArray.empty,none,0,0,none,0,0⟩) 45)))
     go_wp2_with (at_builtin;refine wpList_append_any _ rfl _ _ 42 rfl w.heap.size 45 i0 VC.zero.val 5 80 Tryz.underlying42 hi0 hy0 hy1 hy2 rfl (by decide) u6 ps.length (flat recV ps) rfl LK.out.vs.own _ _ 1 _ (recV (⟨3,hh,ByteArray.empty,none,0,0,none,0,0⟩,intH y)) rfl ⟨rfl,fun _=>⟨_,rfl,Nat.lt_succ_self _,news_at _ _ _⟩⟩ (recV_one _) (by unfold maxLen;omega) (by omega) (alloc_le hlo _) ?_)
     intro v' w6 hown hgr hat
     have HI:=qD (LK.out.add (p:=(⟨3,hh,ByteArray.empty,none,0,0,none,0,0⟩,intH y)) (by rw[←HHE.out];exact rv_int y) rfl hown hgr (by rw[size_alloc];exact hat))
     clear hown hgr hat LK g0 g1 g2 g3 g4 JB3 J7
     go_wp2_with fail
     go_roundw
     case rel=>exact⟨i+1,ys++[y],ps++[(⟨3,hh,ByteArray.empty,none,0,0,none,0,0⟩,intH y)],hlt,by rw[List.length_append,HYL.out];rfl,by rw[List.map_append,HPS.out,hashes_yes];rfl,by go_num,by rw[HV.out],HI.out⟩
     case measure=>simp[intOf];omega
  ·obtain rfl:i=n:=by omega
   have HV:Hid (encR ks ha x=keyR (ps.map Prod.snd)):=by
    rw[HPS.out]
    refine encR_some ?_
    rw[HVX.out,HA.out,List.drop_of_length_le (by have:=HN.out;omega),valsAt]
    simp
   obtain⟨A1,c1,hu6,hsl⟩:=J2.out.vs.sl (by have:=HPL.out;omega)
   rw[HPL.out] at hu6 hsl
   have HSL:=qD hsl
   subst hu6
   clear hsl
   go_upto_region 14 with fail
   obtain⟨j0,hj0,hz0,hz1,hz2⟩:=info_parts kinfo_bool
   have hmk:=run_make_rowN (P:=Tryz.prog) 136 4 j0 (.bool false) Tryz.underlying136 hj0 hz0 i (by rw[hz2];omega) (by omega)
   rw[hz1,Nat.mul_one] at hmk
   have LK:=qD (J2.out.step ((Below.refl wr.heap.size wr).alloc (qL) (.cells (madeCells #[.bool false] i) 4)))
   have hec:=encode_any ps A1 (some ⟨wr.heap.size,0,none⟩) i c1 i (wr.alloc (.cells (madeCells #[.bool false] i) 4)) (HT.out.step LK.out.vs.bel) (HSL.out.step ((Below.refl wr.heap.size wr).alloc (qL) _)) (sx_made wr i) (by omega)
   rw[←HV.out] at hec
   have HEC:=qD hec
   obtain⟨⟨K1,K2⟩,hK⟩:∃K,encR ks ha x=K:=⟨_,rfl⟩
   rw[hK] at HEC
   have HKK:=qD hK
   clear hK HV hec
   go_wp2_with fail
   refine HEC.out.mono ?_
   rintro e w5 ⟨rfl,hb⟩
   have CE:=qD (LK.out.vs.bel.step' hb)
   clear hb HEC LK J2 HSL hmk
   go_wp2_with fail
   go_ret2
   exact⟨by rw[HKK.out];rfl,CE.out⟩
def idB:ByteArray:=⟨#[95,105,100]⟩
noncomputable def idV(x:Val):Val:=(getV x idB).getD Val.zero
structure Wt where
 kd:Int
 sp:ByteArray
 key:Val
 doc:Val
 si:Bool
def spanC(lo hi:ByteArray):Ch:=⟨lo,hi,0,0,false⟩
noncomputable def insD(R:Ro)(lo hi:ByteArray)(x:Val):Bool:=decide ((encR R.ks R.ha x).2=0)&&inB (encR R.ks R.ha x).1 (spanC lo hi)
noncomputable def putW(sp:ByteArray)(x:Val):Wt:=⟨2,sp,idV x,x,true⟩
def remW(sp:ByteArray)(k:Val):Wt:=⟨3,sp,k,Val.zero,true⟩
noncomputable def noteL(R:Ro)(sp lo hi:ByteArray)(w:Wt):List Wt:=
 if w.sp=sp then(if w.kd=2∧insD R lo hi w.doc=true then [putW sp w.doc] else if w.kd=3 then [remW sp w.key] else []) else []
structure WC where
 kd:Int
 sp:ByteArray
 key:VC
 doc:VC
 si:Bool
def WC.zero:WC:=⟨0,ByteArray.empty,VC.zero,VC.zero,false⟩
def tailW:List Value:=[.int .i64 0,.int .i64 0,.string ByteArray.empty,.slice none 0 0,.slice none 0 0,.string ByteArray.empty,.slice none 0 0,.int .i64 0,.bool false,.int .i64 0,.int .i64 0,.string ByteArray.empty,.slice none 0 0,.slice none 0 0,.bool false,.int .i64 0,.int .i64 0,.string ByteArray.empty,.slice none 0 0,.slice none 0 0,.slice none 0 0,.int .i64 0,.int .i64 0,.slice none 0 0,.slice none 0 0,.bool false,.slice none 0 0,.bool false,.int .i64 0,.int .i64 0,.string ByteArray.empty,.int .i64 0,.slice none 0 0,.bool false,.bool false,.bool false,.int .i64 0,.slice none 0 0,.int .i64 0,.int .i64 0,.string ByteArray.empty,.slice none 0 0,.slice none 0 0,.slice none 0 0,.int .i64 0,.int .i64 0,.int .i64 0,.slice none 0 0,.int .i64 0,.int .i64 0,.slice none 0 0,.string ByteArray.empty,.slice none 0 0,.int .i64 0,.int .i64 0,.string ByteArray.empty,.slice none 0 0,.slice none 0 0,.int .i64 0,.slice none 0 0,.slice none 0 0,.string ByteArray.empty,.int .i64 0,.slice none 0 0,.slice none 0 0]
abbrev PW:=WC×Wt
def recC78(x:WC):List Value:=.int .i64 x.kd::.string x.sp::(x.key.list++(x.doc.list++(tailW++[.bool x.si])))
def recW(p:PW):List Value:=recC78 p.1
theorem recC78_length(x:WC):(recC78 x).length=78:=rfl
theorem recW_length(p:PW):(recW p).length=78:=rfl
theorem tailW_one:∀u∈tailW,u.oneCell'=true:=by
 intro u hu
 have:tailW.all (fun u=>u.oneCell')=true:=by rfl
 exact List.all_eq_true.1 this u hu
theorem recC78_one(x:WC):∀u∈recC78 x,u.oneCell'=true:=by
 intro u hu
 unfold recC78 at hu
 simp only[List.mem_cons,List.mem_append,List.not_mem_nil,or_false] at hu
 rcases hu with rfl|rfl|hu|hu|hu|rfl
 ·rfl
 ·rfl
 ·exact recV_one (x.key,Val.zero) u hu
 ·exact recV_one (x.doc,Val.zero) u hu
 ·exact tailW_one u hu
 ·rfl
theorem recW_one(p:PW):∀u∈recW p,u.oneCell'=true:=recC78_one p.1
theorem info_write:(Tryz.prog.info? 67).map (fun i=>(i.zero,i.size,i.bytes))=some (some (.agg (recC78 WC.zero).toArray),78,1168):=by kernel_rfl
structure RW1(F:Nat→Prop)(w:World)(c:WC)(x:Wt):Prop where
 kd:c.kd=x.kd
 sp:c.sp=x.sp
 si:c.si=x.si
 sz:x.sp.size≤reach
 key:RV F w c.key x.key
 doc:RV F w c.doc x.doc
theorem RW1.keepG{F G:Nat→Prop}{w w':World}{c:WC}{x:Wt}(h:RW1 F w c x)(hk:∀b,F b→b<w.heap.size→G b∧w'.heap[b]?=w.heap[b]?):RW1 G w' c x:=⟨h.kd,h.sp,h.si,h.sz,h.key.keepG hk,h.doc.keepG hk⟩
theorem RW1.mono{F G:Nat→Prop}{w:World}{c:WC}{x:Wt}(h:RW1 F w c x)(hk:∀b,F b→G b):RW1 G w c x:=h.keepG fun b hb _=>⟨hk b hb,rfl⟩
theorem RW1.step{F:Nat→Prop}{w w':World}{c:WC}{x:Wt}(h:RW1 F w c x)(hb:Below w.heap.size w w'):RW1 F w' c x:=h.keepG fun b hF hl=>⟨hF,hb.block b hl⟩
theorem RW1.alloc{F:Nat→Prop}{w:World}{c:WC}{x:Wt}(h:RW1 F w c x)(o:Obj):RW1 F (w.alloc o) c x:=h.step ((Below.refl _ _).alloc (qL) o)
structure WS(F:Nat→Prop)(w:World)(A:Option Addr)(n c:Nat)(ps:List PW):Prop where
 sr:SR 78 recW w A n c ps
 sz:n*1168≤reach
 el:∀p∈ps,RW1 F w p.1 p.2
theorem WS.step{F:Nat→Prop}{w w':World}{A:Option Addr}{n c:Nat}{ps:List PW}(h:WS F w A n c ps)(hb:Below w.heap.size w w'):WS F w' A n c ps:=⟨h.sr.step hb,h.sz,fun p hp=>(h.el p hp).step hb⟩
theorem WS.alloc{F:Nat→Prop}{w:World}{A:Option Addr}{n c:Nat}{ps:List PW}(h:WS F w A n c ps)(o:Obj):WS F (w.alloc o) A n c ps:=h.step ((Below.refl _ _).alloc (qL) o)
theorem WS.nil{F:Nat→Prop}{w:World}:WS F w none 0 0 []:=⟨SR.nil,by decide,fun p hp=>by simp at hp⟩
theorem WS.mono{F G:Nat→Prop}{w:World}{A:Option Addr}{n c:Nat}{ps:List PW}(h:WS F w A n c ps)(hk:∀b,F b→G b):WS G w A n c ps:=⟨h.sr,h.sz,fun p hp=>(h.el p hp).mono hk⟩
structure WsI(lo:Nat)(w:World)(v:Value)(ps:List PW)(wr:World):Prop where
 own:wr.ownsRow lo 67 78 v ps.length (flat recW ps)
 rv:∀p∈ps,RW1 (fun b=>v.ownBlock≠some b) wr p.1 p.2
 lo:w.heap.size≤lo
 bel:Below w.heap.size w wr
theorem WsI.step{lo:Nat}{w wr w':World}{v:Value}{ps:List PW}(h:WsI lo w v ps wr)(hb:Below wr.heap.size wr w'):WsI lo w v ps w':=⟨own_step h.own hb,fun p hp=>(h.rv p hp).step hb,h.lo,h.bel.step' hb⟩
theorem WsI.start(w:World):WsI w.heap.size w (.slice none 0 0) [] w:=⟨own_nil _ _ _ _,fun p hp=>by simp at hp,qL,Below.refl _ _⟩
theorem WsI.addL{lo:Nat}{w wr w':World}{v v':Value}{ps qs:List PW}{m:Nat}(h:WsI lo w v ps wr)(hp:∀p∈qs,RW1 (fun b=>v.ownBlock≠some b) wr p.1 p.2)(hm:m=ps.length+qs.length)(ho:w'.ownsRow lo 67 78 v' m (flat recW ps++flat recW qs))(hg:wr.grownBy w' v.ownBlock)(hat:v'.ownBlock=v.ownBlock∨v'.ownBlock=some wr.heap.size):WsI lo w v' (ps++qs) w':=by
 subst hm
 have key:∀b,v.ownBlock≠some b→b<wr.heap.size→v'.ownBlock≠some b∧w'.heap[b]?=wr.heap[b]?:=fun b hb hl=>by
  refine⟨?_,hg.block b hl (fun e=>hb e.symm)⟩
  rcases hat with e|e<;>rw[e]
  ·exact hb
  ·intro e'
   injection e' with e'
   omega
 refine⟨by rw[flat_append,List.length_append];exact ho,fun q hq=>?_,h.lo,h.bel.grown hg h.bel.size (fun k hk=>by have:=own_ge h.own k hk;have:=h.lo;omega)⟩
 rcases List.mem_append.1 hq with hq|hq
 ·exact(h.rv q hq).keepG key
 ·exact(hp q hq).keepG key
theorem flat_single{α:Type}(rec:α→List Value)(a:α):flat rec [a]=rec a:=by simp[flat]
theorem WsI.add{lo:Nat}{w wr w':World}{v v':Value}{ps:List PW}{p:PW}{m:Nat}(h:WsI lo w v ps wr)(hp:RW1 (fun b=>v.ownBlock≠some b) wr p.1 p.2)(hm:m=ps.length+1)(ho:w'.ownsRow lo 67 78 v' m (flat recW ps++recW p))(hg:wr.grownBy w' v.ownBlock)(hat:v'.ownBlock=v.ownBlock∨v'.ownBlock=some wr.heap.size):WsI lo w v' (ps++[p]) w':=
 h.addL (by simpa using hp) hm (by rw[flat_single];exact ho) hg hat
structure Mv where
 sp:ByteArray
 lo:ByteArray
 hi:ByteArray
 fr:Int
 tt:Int
 st:Int
 cp:List Wt
 ch:List Wt
def Mv.zero:Mv:=⟨ByteArray.empty,ByteArray.empty,ByteArray.empty,0,0,0,[],[]⟩
structure MA where
 CA:Option Addr
 cn:Nat
 cc:Nat
 HA:Option Addr
 hn:Nat
 hc:Nat
def MA.zero:MA:=⟨none,0,0,none,0,0⟩
abbrev marr(a:MA)(M:Mv):Array Value:=#[.string M.sp,.string M.lo,.string M.hi,.int .i64 M.fr,.int .i64 M.tt,.int .i64 M.st,.slice a.CA a.cn a.cc,.slice a.HA a.hn a.hc]
abbrev mval(a:MA)(M:Mv):Value:=.agg (marr a M)
structure MR(w:World)(a:MA)(M:Mv):Prop where
 sp:M.sp.size≤reach
 cp:∃ps,ps.map Prod.snd=M.cp∧WS (fun _=>True) w a.CA a.cn a.cc ps
 ch:∃ps,ps.map Prod.snd=M.ch∧WS (fun _=>True) w a.HA a.hn a.hc ps
theorem MR.step{w w':World}{a:MA}{M:Mv}(h:MR w a M)(hb:Below w.heap.size w w'):MR w' a M:=by
 obtain⟨ps,e,hp⟩:=h.cp
 obtain⟨qs,e',hq⟩:=h.ch
 exact⟨h.sp,⟨ps,e,hp.step hb⟩,⟨qs,e',hq.step hb⟩⟩
theorem MR.alloc{w:World}{a:MA}{M:Mv}(h:MR w a M)(o:Obj):MR (w.alloc o) a M:=h.step ((Below.refl _ _).alloc (qL) o)
theorem MR.zero{w:World}:MR w MA.zero Mv.zero:=⟨by show 0≤reach;decide,⟨[],rfl,WS.nil⟩,⟨[],rfl,WS.nil⟩⟩
theorem blk_mv{w:World}{g:Nat}{a:MA}{M:Mv}(h:Blk w g 35 (marr a M)):
 w.cell? ⟨g,0,none⟩=some (.string M.sp)∧w.cell? ⟨g,1,none⟩=some (.string M.lo)∧w.cell? ⟨g,2,none⟩=some (.string M.hi)∧w.cell? ⟨g,3,none⟩=some (.int .i64 M.fr)∧w.cell? ⟨g,4,none⟩=some (.int .i64 M.tt)∧w.cell? ⟨g,5,none⟩=some (.int .i64 M.st)∧w.cell? ⟨g,6,none⟩=some (.slice a.CA a.cn a.cc)∧w.cell? ⟨g,7,none⟩=some (.slice a.HA a.hn a.hc):=
 ⟨h.cell 0,h.cell 1,h.cell 2,h.cell 3,h.cell 4,h.cell 5,h.cell 6,h.cell 7⟩
theorem fill_write(wc:WC):Instr.fill (fun i=>some (i*78,78)) ((Array.range (1*78)).map ((Value.agg (recC78 WC.zero).toArray).cells[·%(Value.agg (recC78 WC.zero).toArray).cells.size]!)) [(0,.agg (recC78 wc).toArray)]=some (recC78 wc).toArray:=by
 obtain⟨kd,sp,⟨c1,c2,c3,c4,c5,c6,c7,c8,c9⟩,⟨d1,d2,d3,d4,d5,d6,d7,d8,d9⟩,si⟩:=wc
 kernel_rfl
theorem build_write{a:Act}{t:Tmp}{wc:WC}(ht:a.eval (.tmp t)=.agg (recC78 wc).toArray):
 Instr.fill (fun i=>some (i*78,78)) ((Array.range (1*78)).map ((Value.agg (recC78 WC.zero).toArray).cells[·%(Value.agg (recC78 WC.zero).toArray).cells.size]!)) ((#[(0,Operand.tmp t)]:Array (Nat×Operand)).map fun(i,x)=>(i,a.eval x)).toList=some (recC78 wc).toArray:=by
 have h:((#[(0,Operand.tmp t)]:Array (Nat×Operand)).map fun(i,x)=>(i,a.eval x)).toList=[(0,.agg (recC78 wc).toArray)]:=by simp[ht]
 rw[h]
 exact fill_write wc
theorem exec_built{P:Program}{op:Oper}{a:Act}{w:World}{t:TypeId}{parts:Array (Nat×Operand)}{cells:Array Value}(ho:op.op=.build t parts)(hb:P.built t (parts.map fun(i,x)=>(i,a.eval x)).toList=some cells):
 (execOp a.eval op).run P w=.ok (.value (.agg cells)) w:=by
 unfold execOp
 simp only[ho,Sem.run_bind,run_build w t _ cells hb,Result.andThen_ok,Sem.run_pure]
theorem exec_row{P:Program}{op:Oper}{a:Act}{w:World}{ty:TypeId}{x:Operand}{g:Nat}{t:TypeId}{cs:Array Value}{d:TypeDesc}(ho:op.op=.load ty x)(hx:a.eval x=.pointer (some ⟨g,0,none⟩))(hg:Blk w g t cs)(hu:P.underlying ty=some d)(hd:(match d with | .struct _ | .array _ _=>true|_=>false)=true)(hi:(P.info? ty).map (·.size)=some cs.size):(execOp a.eval op).run P w=.ok (.value (.agg cs)) w:=by
 unfold execOp
 simp only[ho,hx,Instr.loadAt,Instr.sureAddr,Sem.run_bind,Sem.run_pure,Result.andThen_ok,run_loadVar_row w g t ty cs _ d hg hu hd hi]
theorem sizeW:(Tryz.prog.info? 67).map (·.size)=some 78:=by
 obtain⟨i,h1,_,h3,_⟩:=info_parts info_write
 rw[h1]
 exact congrArg some h3
theorem recC78_all(c:WC):(recC78 c).toArray.all (·.oneCell')=true:=all_oneCell_toArray (recC78_one c)
theorem Blk.row{w:World}{g:Nat}{t:TypeId}{old:Array Value}(h:Blk w g t old)(cs:Array Value):Blk (w.setRow g cs) g t cs:=setRow_heap w g old cs t (0,0) h
theorem Blk.row_far{w:World}{g b:Nat}{t:TypeId}{cs:Array Value}(h:Blk w b t cs)(hne:b≠g)(xs:Array Value):Blk (w.setRow g xs) b t cs:=(setRow_other w g b xs hne).trans h
theorem below_row{B:Nat}{a w:World}(h:Below B a w){g:Nat}(hg:B≤g)(cs:Array Value):Below B a (w.setRow g cs):=
 ⟨h.os,h.tape,h.output,by rw[setRow_size];exact h.size,fun k hk=>(setRow_other w g k cs (by omega)).trans (h.block k hk)⟩
theorem results_write{fn:Func}{p:Tmp}(h:fn.results=#[.cell p 67])(tmps:Array Value)(w:World)(g:Nat)(c:WC)(hp:tmps.getD p undef=.pointer (some ⟨g,0,none⟩))(hg:Blk w g 67 (recC78 c).toArray):(results fn tmps).run Tryz.prog w=.ok (.agg (recC78 c).toArray) w:=
 results_cell_row h tmps w g _ _ _ _ hp hg Tryz.underlying67 rfl (by rw[sizeW];rfl)
theorem move_no{w:World}{g:Nat}{t:TypeId}{a:MA}{M:Mv}(h:Blk w g t (marr a M))(off:Nat)(c:VC):¬VAt w g off c:=by
 rintro⟨h0,h1,h2,_,_⟩
 rw[h.cell] at h0 h1 h2
 match off with
 | 0=>simp[marr] at h0
 | 1=>simp[marr] at h0
 | 2=>simp[marr] at h0
 | 3=>simp[marr] at h2
 | 4=>simp[marr] at h2
 | 5=>simp[marr] at h1
 | 6=>simp[marr] at h0
 | 7=>simp[marr] at h0
 | k+8=>simp[marr] at h0
theorem RV.miss{F:Nat→Prop}{w:World}{g:Nat}(h0:0<g)(hg:∀off c,¬VAt w g off c){x:Val}:∀{c:VC},RV F w c x→RV (fun b=>F b∧b≠g) w c x:=by
 induction x using Val.ind with
 | h k n t l d ihl ihd=>
  intro c h
  have ho:=h.open
  have hft:∀{b:Nat},Ft F w b→b≠g→Ft (fun b=>F b∧b≠g) w b:=fun hF hne=>⟨⟨hF.1,hne⟩,fun hn=>hF.2 fun hz=>hn ⟨hz,by omega⟩⟩
  refine RVs.shut ⟨ho.k,ho.n,ho.t,ho.tsz,ho.ln,ho.lc,ho.lsz,fun h'=>?_,ho.dn,ho.dc,ho.dsz,fun h'=>?_⟩
  ·obtain⟨b,off,e,hF,hl⟩:=ho.la h'
   have hb:b≠g:=by
    rintro rfl
    obtain⟨y,hy⟩:∃y,l[0]?=some y:=⟨_,List.getElem?_eq_getElem (by have:=ho.ln;simp only[Val.l] at this;omega)⟩
    obtain⟨e',he',_⟩:=hl 0 y hy
    exact hg _ _ he'
   refine⟨b,off,e,hft hF hb,fun i y hi=>?_⟩
   obtain⟨e',he',hr⟩:=hl i y hi
   exact⟨e',he',ihl y (List.mem_of_getElem? hi) hr⟩
  ·obtain⟨b,off,e,hF,hl⟩:=ho.da h'
   have hb:b≠g:=by
    rintro rfl
    obtain⟨y,hy⟩:∃y,d[0]?=some y:=⟨_,List.getElem?_eq_getElem (by have:=ho.dn;simp only[Val.d] at this;omega)⟩
    obtain⟨_,_,e',he',_⟩:=hl 0 y hy
    exact hg _ _ he'
   refine⟨b,off,e,hft hF hb,fun i f hi=>?_⟩
   obtain⟨hs,hz,e',he',hr⟩:=hl i f hi
   exact⟨hs,hz,e',he',ihd f (List.mem_of_getElem? hi) hr⟩
theorem RV.row_move{F:Nat→Prop}{w:World}{g:Nat}{t:TypeId}{a:MA}{M:Mv}{c:VC}{x:Val}(h:RV F w c x)(q:Blk w g t (marr a M))(h0:0<g)(cs:Array Value):RV F (w.setRow g cs) c x:=
 (h.miss h0 (move_no q)).keepG fun b hb _=>⟨hb.1,setRow_other w g b cs hb.2⟩
theorem WS.row_move{w:World}{g:Nat}{t:TypeId}{a:MA}{M:Mv}{A:Option Addr}{n c:Nat}{ps:List PW}(h:WS (fun _=>True) w A n c ps)(q:Blk w g t (marr a M))(h0:0<g)(cs:Array Value):WS (fun _=>True) (w.setRow g cs) A n c ps:=by
 refine⟨⟨h.sr.ln,h.sr.lc,fun hn=>?_⟩,h.sz,fun p hp=>?_⟩
 ·obtain⟨b,off,e,hl,hc⟩:=h.sr.el hn
  have hb:b≠g:=by
   rintro rfl
   obtain⟨p,hp⟩:∃p,ps[0]?=some p:=⟨_,List.getElem?_eq_getElem (by have:=h.sr.ln;omega)⟩
   have h77:=hc 0 p hp 77 (.bool p.1.si) rfl
   rw[q.cell] at h77
   simp[marr] at h77
  refine⟨b,off,e,by simpa using hl,fun i p hi j v hj=>?_⟩
  rw[World.cell?_of_block (setRow_other w g b cs hb)]
  exact hc i p hi j v hj
 ·have:=h.el p hp
  exact⟨this.kd,this.sp,this.si,this.sz,this.key.row_move q h0 cs,this.doc.row_move q h0 cs⟩
theorem MR.row_move{w:World}{g:Nat}{t:TypeId}{a b:MA}{M N:Mv}(h:MR w b N)(q:Blk w g t (marr a M))(h0:0<g)(cs:Array Value):MR (w.setRow g cs) b N:=by
 obtain⟨ps,e,hp⟩:=h.cp
 obtain⟨qs,e',hq⟩:=h.ch
 exact⟨h.sp,⟨ps,e,hp.row_move q h0 cs⟩,⟨qs,e',hq.row_move q h0 cs⟩⟩
theorem cloneW_any(xs:List PW)(A:Option Addr)(n c:Nat)(w:World)(h:WS (fun _=>True) w A n c xs)(hn:n≤100000):
 Calls Tryz.prog 79 #[.slice A n c] w fun e w'=>∃v,e=.returned v∧w'.ownsRow w.heap.size 67 78 v n (flat recW xs)∧Below w.heap.size w w':=by
 obtain⟨j0,hj0,hy0,hy1,hy2⟩:=info_parts info_write
 have HL:=qD h.sr.ln
 cases A with
 | none=>
  have h0:n=0:=by
   rcases Nat.eq_zero_or_pos n with h0|h0
   ·exact h0
   ·obtain⟨b,off,e,_⟩:=h.sr.el h0;cases e
  subst h0
  have HX:Hid (xs=[]):=List.eq_nil_of_length_eq_zero HL.out.symm
  clear h
  have kn:=fun(w:World)=>Lib.run_eql_slice_nil (P:=Tryz.prog) w 33 67 none 0 c 0 0 Tryz.underlying33
  go_enter Tryz.func79,Tryz.ntmps79
  go_wp2_with fail
  go_ret
  exact⟨_,rfl,by rw[HX.out];exact own_nil _ _ _ _,Below.refl _ _⟩
 | some ad=>
  have hR:Reads w w.heap.size 78 (some ad) n (flat recW xs):=by
   refine⟨by rw[flat_length recW_length,HL.out],fun hp=>?_⟩
   obtain⟨b,off,e,hb,hel⟩:=h.sr.el hp
   cases e
   refine⟨_,rfl,hb,fun j u hu=>?_⟩
   have hj:=(List.getElem?_eq_some_iff.1 hu).1
   rw[flat_length recW_length] at hj
   obtain⟨a,v,g1,g2,g3⟩:=flat_at' recW_length (by omega) xs j hj
   have:=hel (j/78) a g1 (j%78) v g2
   rw[addr_add]
   rw[g3] at hu
   cases hu
   rw[show off+j=off+j/78*78+j%78 by omega]
   exact this
  have HR:=qD hR
  have hO:(w.alloc (.cells #[] 67)).ownsRow w.heap.size 67 78 (.slice (some ⟨w.heap.size,0,none⟩) 0 0) 0 []:=
   ⟨rfl,.inr ⟨w.heap.size,0,#[],rfl,qL,Blk.new_at rfl,qL,Nat.zero_le _,rfl,rfl⟩⟩
  have HO:=qD hO
  have h1:∀u∈flat recW xs,u.oneCell'=true:=by
   intro u hu
   obtain⟨p,_,hp⟩:=List.mem_flatMap.1 hu
   exact recW_one p u hp
  have H1:=qD h1
  clear h hR hO h1
  have kn:=fun(w:World)=>Lib.run_eql_slice_nil (P:=Tryz.prog) w 33 67 (some ad) n c 0 0 Tryz.underlying33
  go_enter Tryz.func79,Tryz.ntmps79
  go_wp2_with (at_builtin;refine wpList_append_any _ rfl _ _ 33 rfl w.heap.size 67 j0 (Value.agg (recC78 WC.zero).toArray) 78 1168 Tryz.underlying33 hj0 hy0 hy1 hy2 rfl (by decide) (.slice (some ⟨w.heap.size,0,none⟩) 0 0) 0 [] rfl HO.out w.heap.size (some ad) n c (flat recW xs) rfl (HR.out.alloc (qL) _) H1.out (by unfold maxLen;omega) (by omega) (by simp) ?_)
  intro v' w2 hown hg _
  go_wp2_with fail
  go_ret
  refine⟨v',rfl,by simpa using hown,?_⟩
  exact((Below.refl w.heap.size w).alloc (qL) _).grown hg (by simp) (fun k hk=>by simp[Value.ownBlock] at hk;omega)
theorem growW_any(n:Nat)(w:World)(hn:n≤1000000):
 Calls Tryz.prog 57 #[.slice none 0 0,.int .i64 n] w fun e w'=>∃v,e=.returned v∧w'.ownsRow w.heap.size 67 78 v 0 (flat recW [])∧Below w.heap.size w w':=by
 obtain⟨i0,hi0,hz0,hz1,hz2⟩:=info_parts info_write
 rcases Nat.eq_zero_or_pos n with rfl|h0
 ·go_enter Tryz.func57,Tryz.ntmps57
  go_wp2_with fail
  go_ret
  exact⟨_,rfl,own_nil _ _ _ _,Below.refl _ _⟩
 ·have hold:(Builtin.firstCells i0.size 0 (.slice none 0 0)).run Tryz.prog w.drew=.ok ([]:List Value).toArray w.drew:=run_firstCells_none w.drew i0.size 0 0 0
  have hrz:∀ty,(Builtin.append_ #[33,3] ty #[.slice none 0 0,.int .i64 (n:Int)]).run Tryz.prog w=
   .ok (.slice (some ⟨w.heap.size,0,none⟩) n (grownCap w n 0 67)) (w.drew.alloc (.cells (Builtin.zeroCells (Value.agg (recC78 WC.zero).toArray).cells n++Builtin.zeroCells (Value.agg (recC78 WC.zero).toArray).cells (grownCap w n 0 67-n)) 67)):=fun ty=>by
   have h:=Lib.run_append_grow_zeros w 33 3 ty 67 i0 _ .i64 .i64 Tryz.underlying33 Tryz.underlying3 hi0 hz0 none 0 0 [] hold n h0 (by omega) (by omega) (by omega) (by rw[hz2];omega) (by rw[Nat.zero_add];exact growslice_fits h0 (by rw[hz2];omega))
   simpa using h
  have hG1:n≤grownCap w n 0 67:=grownCap_ge w _ _ _
  have hG2:=grownCap_le_maxLen w n 0 67 (by unfold maxLen;omega)
  have HC:Hid ((Builtin.zeroCells (Value.agg (recC78 WC.zero).toArray).cells n++Builtin.zeroCells (Value.agg (recC78 WC.zero).toArray).cells (grownCap w n 0 67-n)).size=grownCap w n 0 67*78):=by
   unfold Hid
   rw[Array.size_append,size_zeroCells,size_zeroCells]
   show n*78+(_-n)*78=_
   omega
  generalize Builtin.zeroCells (Value.agg (recC78 WC.zero).toArray).cells n++Builtin.zeroCells (Value.agg (recC78 WC.zero).toArray).cells (grownCap w n 0 67-n)=cur at*
  generalize grownCap w n 0 67=G at*
  have hG3:(G:Int)≤9223372036854775807:=by unfold maxLen at hG2;omega
  have HG:=qD hG2
  clear hold hi0 hz0 hz1 hz2 hG2
  go_enter Tryz.func57,Tryz.ntmps57
  go_wp2_with (at_builtin;refine Lib.wpList_append_run _ rfl _ _ _ _ rfl _ _ rfl rfl _ _ (hrz _) ?_)
  go_ret
  exact⟨_,rfl,World.ownsRow_made w.drew cur G (qL) HG.out HC.out,((Below.refl w.heap.size w).drew).alloc (qL) _⟩
theorem WS.reads{w:World}{A:Option Addr}{n c:Nat}{xs:List PW}(h:WS (fun _=>True) w A n c xs):Reads w w.heap.size 78 A n (flat recW xs):=by
 refine⟨by rw[flat_length recW_length,h.sr.ln],fun hp=>?_⟩
 obtain⟨b,off,e,hb,hel⟩:=h.sr.el hp
 cases e
 refine⟨_,rfl,hb,fun j u hu=>?_⟩
 have hj:=(List.getElem?_eq_some_iff.1 hu).1
 rw[flat_length recW_length] at hj
 obtain⟨a,v,g1,g2,g3⟩:=flat_at' recW_length (by omega) xs j hj
 have:=hel (j/78) a g1 (j%78) v g2
 rw[addr_add]
 rw[g3] at hu
 cases hu
 rw[show off+j=off+j/78*78+j%78 by omega]
 exact this
theorem flatW_one'(xs:List PW):∀u∈flat recW xs,u.oneCell'=true:=by
 intro u hu
 obtain⟨p,_,h⟩:=List.mem_flatMap.1 hu
 exact recW_one p u h
structure CcW(w:World)(v:Value)(n:Nat)(xs:List PW)(wr:World):Prop where
 own:wr.ownsRow w.heap.size 67 78 v n (flat recW xs)
 bel:Below w.heap.size w wr
theorem concatW_any(xs ys:List PW)(A B:Option Addr)(n c m d g:Nat)(w:World)(h0:w.cell? ⟨g,0,none⟩=some (.slice A n c))(h1:w.cell? ⟨g,1,none⟩=some (.slice B m d))(hx:WS (fun _=>True) w A n c xs)(hy:WS (fun _=>True) w B m d ys)(hn:n≤100000)(hm:m≤100000):
 Calls Tryz.prog 36 #[.slice (some ⟨g,0,none⟩) 2 2] w fun e w'=>∃v,e=.returned v∧w'.ownsRow w.heap.size 67 78 v (n+m) (flat recW (xs++ys))∧Below w.heap.size w w':=by
 obtain⟨i0,hi0,hz0,hz1,hz2⟩:=info_parts info_write
 have H0:=qD h0
 have H1:=qD h1
 have HX:=qD hx.reads
 have HY:=qD hy.reads
 have hg:g<w.heap.size:=World.block_lt_of_cell? w ⟨g,0,none⟩ h0
 have I0:Hid (∀w1 v,w1.ownsRow w.heap.size 67 78 v 0 (flat recW [])→Below w.heap.size w w1→CcW w v 0 [] w1):=fun _ _ a b=>⟨a,b⟩
 clear hx hy
 go_enter Tryz.func36,Tryz.ntmps36
 go_wp2_with fail
 go_loopw [3,11] (fun v3 v11 wr=>w=wr∧((v11=.int .i64 0∧v3=.int .i64 0)∨(v11=.int .i64 1∧v3=.int .i64 n)∨(v11=.int .i64 2∧v3=.int .i64 ((n+m:Nat):Int)))) (fun _ v11 _=>2-(intOf v11).toNat)
 case atStart=>exact⟨rfl,.inl ⟨rfl,rfl⟩⟩
 case round=>
  obtain⟨rfl,⟨rfl,rfl⟩|⟨rfl,rfl⟩|⟨rfl,rfl⟩⟩:=hrel
  ·go_wp2_with fail
   go_roundw
   case rel=>exact⟨by trivial,.inr (.inl ⟨rfl,by go_num⟩)⟩
   case measure=>simp[intOf]
  ·go_wp2_with fail
   go_roundw
   case rel=>exact⟨by trivial,.inr (.inr ⟨rfl,by go_num⟩)⟩
   case measure=>simp[intOf]
  ·clear h0 h1
   go_wp2_with fail
   refine(growW_any (n+m) _ (by omega)).mono ?_
   rintro e w1 ⟨v,rfl,hown,hb1⟩
   have I1:=qD (I0.out w1 v hown hb1)
   clear hown hb1
   go_wp2_with fail
   go_loopw [6,27] (fun v6 v27 wx=>(v27=.int .i64 0∧CcW w v6 0 [] wx)∨(v27=.int .i64 1∧CcW w v6 n xs wx)∨(v27=.int .i64 2∧CcW w v6 (n+m) (xs++ys) wx)) (fun _ v27 _=>2-(intOf v27).toNat)
   case atStart=>exact .inl ⟨rfl,I1.out⟩
   case round=>
    obtain⟨rfl,I⟩|⟨rfl,I⟩|⟨rfl,I⟩:=hrel
    ·have J:=qD I
     have hsz:=I.bel.size
     have hc:wr.cell? ⟨g,0,none⟩=some (.slice A n c):=(I.bel.cell (p:=⟨g,0,none⟩) hg).trans H0.out
     have R:=qD (HX.out.below I.bel)
     clear I
     go_wp2_with (at_builtin;refine wpList_append_any _ rfl _ _ 33 rfl w.heap.size 67 i0 (Value.agg (recC78 WC.zero).toArray) 78 1168 Tryz.underlying33 hi0 hz0 hz1 hz2 rfl (by decide) u6 0 (flat recW []) rfl J.out.own _ _ n _ (flat recW xs) rfl R.out ?c1 (by unfold maxLen;omega) (by omega) hsz ?_)
     case c1=>exact flatW_one' _
     intro v' w4 hown hgr _
     have HI:Hid (CcW w v' n ([]++xs) w4):=qD ⟨by rw[flat_append];exact hown,J.out.bel.grown hgr hsz (own_ge J.out.own)⟩
     clear hown hgr hc
     go_wp2_with fail
     go_roundw
     case rel=>exact .inr (.inl ⟨rfl,by simpa using HI.out⟩)
     case measure=>simp[intOf]
    ·have J:=qD I
     have hsz:=I.bel.size
     have hc:wr.cell? ⟨g,1,none⟩=some (.slice B m d):=(I.bel.cell (p:=⟨g,1,none⟩) hg).trans H1.out
     have R:=qD (HY.out.below I.bel)
     clear I
     go_wp2_with (at_builtin;refine wpList_append_any _ rfl _ _ 33 rfl w.heap.size 67 i0 (Value.agg (recC78 WC.zero).toArray) 78 1168 Tryz.underlying33 hi0 hz0 hz1 hz2 rfl (by decide) u6 n (flat recW xs) rfl J.out.own _ _ m _ (flat recW ys) rfl R.out ?c1 (by unfold maxLen;omega) (by omega) hsz ?_)
     case c1=>exact flatW_one' _
     intro v' w4 hown hgr _
     have HI:Hid (CcW w v' (n+m) (xs++ys) w4):=qD ⟨by rw[flat_append];exact hown,J.out.bel.grown hgr hsz (own_ge J.out.own)⟩
     clear hown hgr hc
     go_wp2_with fail
     go_roundw
     case rel=>exact .inr (.inr ⟨rfl,HI.out⟩)
     case measure=>simp[intOf]
    ·have J:=qD I
     clear I
     go_wp2_with fail
     go_ret
     exact⟨_,rfl,J.out.own,J.out.bel⟩
open Go.ChangeShapes Go.WideShapes Go.ChangeAt Go.Joins Go.Deep
def Light{H:Type}(t:TypeId)(d:DataW H):Prop:=∀z∈d.weights Tryz.prog t,z≤reach0
theorem light_all{H:Type}{t:TypeId}{l:List (DataW H)}(h:∀z∈DataW.weightsAll Tryz.prog t l,z≤reach0):∀d∈l,Light t d:=by
 induction l with
 | nil=>intro d hd;simp at hd
 | cons x r ih=>
  intro d hd
  simp only[DataW.weightsAll,List.mem_append] at h
  rcases List.mem_cons.1 hd with rfl|hd
  ·exact fun z hz=>h z (.inl hz)
  ·exact ih (fun z hz=>h z (.inr hz)) d hd
theorem light_each{H:Type}{t:TypeId}{ts:List TypeId}{d:DataW H}{r:List (DataW H)}(h:(DataW.weightsEach Tryz.prog (t::ts) (d::r)).all (·≤reachBytes)=true):Light t d∧(DataW.weightsEach Tryz.prog ts r).all (·≤reachBytes)=true:=by
 simp only[DataW.weightsEach,List.all_append,Bool.and_eq_true] at h
 refine⟨fun z hz=>?_,h.2⟩
 have:=List.all_eq_true.1 h.1 z hz
 exact of_decide_eq_true this
theorem bytes_value:Tryz.prog.bytesOf 45=80:=by kernel_rfl
theorem bytes_field:Tryz.prog.bytesOf 75=96:=by kernel_rfl
theorem cells_value:Tryz.prog.cellsOf 45=5:=by kernel_rfl
theorem cells_field:Tryz.prog.cellsOf 75=6:=by kernel_rfl
theorem cells_int:Tryz.prog.cellsOf 3=1:=by kernel_rfl
theorem cells_string:Tryz.prog.cellsOf 9=1:=by kernel_rfl
theorem cells_list:Tryz.prog.cellsOf 42=1:=by kernel_rfl
theorem cells_doc:Tryz.prog.cellsOf 43=1:=by kernel_rfl
theorem five{α:Type}{l:List α}(h:l.length=5):∃a b c d e,l=[a,b,c,d,e]:=by
 match l,h with
 | [a,b,c,d,e],_=>exact⟨a,b,c,d,e,rfl⟩
theorem six{α:Type}{l:List α}(h:l.length=6):∃a b c d e f,l=[a,b,c,d,e,f]:=by
 match l,h with
 | [a,b,c,d,e,f],_=>exact⟨a,b,c,d,e,f,rfl⟩
theorem two{α:Type}{l:List α}(h:l.length=2):∃a b,l=[a,b]:=by
 match l,h with
 | [a,b],_=>exact⟨a,b,rfl⟩
section
variable {H:Type} {enc:TypeId×Value→H} {W:World} {base:Nat} {spare:Nat→Bool} {held:Bool}
theorem cells_at{a:Addr}{n:Nat}{cs:List Value}(h:W.cells? base a n=some cs)(hn:0<n):∃b off,a=⟨b,off,none⟩∧∀i,i<n→W.cell? ⟨b,off+i,none⟩=cs[i]?:=by
 obtain⟨_,hl,hat⟩:=World.cells?_some h
 obtain⟨b,off,spot⟩:=a
 have h0:=hat 0 hn
 rw[List.getElem?_eq_getElem (by omega)] at h0
 have hs:spot=none:=by simpa[Addr.add] using World.cell?_spot h0
 subst hs
 exact⟨b,off,rfl,fun i hi=>by rw[←addr_add];exact hat i hi⟩
theorem choose_fn{α:Type}{p:Nat→α→Prop}(d:α)(len:Nat)(h:∀i,i<len→∃x,p i x):∃f:Nat→α,∀i,i<len→p i (f i):=by
 refine⟨fun i=>if h':i<len then(h i h').choose else d,fun i h'=>?_⟩
 simp only[dif_pos h']
 exact(h i h').choose_spec
end
def CopyOk(w:World)(x:Val)(e:Ending)(w':World):Prop:=∃c:VC,e=.returned c.val∧RV (fun b=>w.heap.size≤b) w' c x∧Below w.heap.size w w'
theorem cloneC_any(xs:List Ch)(A:Option Addr)(n c:Nat)(w:World)(h:SR 5 recC w A n c xs)(hn:n*56≤reach):
 Calls Tryz.prog 124 #[.slice A n c] w fun e w'=>∃v,e=.returned v∧w'.ownsRow w.heap.size 81 5 v n (flat recC xs)∧Below w.heap.size w w':=by
 obtain⟨j0,hj0,hy0,hy1,hy2⟩:=info_parts info_chunk
 have HL:=qD h.ln
 unfold reach at hn
 cases A with
 | none=>
  have h0:n=0:=by
   rcases Nat.eq_zero_or_pos n with h0|h0
   ·exact h0
   ·obtain⟨b,off,e,_⟩:=h.el h0;cases e
  subst h0
  have HX:Hid (xs=[]):=List.eq_nil_of_length_eq_zero HL.out.symm
  clear h
  have kn:=fun(w:World)=>Lib.run_eql_slice_nil (P:=Tryz.prog) w 25 81 none 0 c 0 0 Tryz.underlying25
  go_enter Tryz.func124,Tryz.ntmps124
  go_wp2_with fail
  go_ret
  exact⟨_,rfl,by rw[HX.out];exact own_nil _ _ _ _,Below.refl _ _⟩
 | some ad=>
  have HR:=qD (h.reads recC_length (by omega))
  have hO:(w.alloc (.cells #[] 81)).ownsRow w.heap.size 81 5 (.slice (some ⟨w.heap.size,0,none⟩) 0 0) 0 []:=
   ⟨rfl,.inr ⟨w.heap.size,0,#[],rfl,qL,Blk.new_at rfl,qL,Nat.zero_le _,rfl,rfl⟩⟩
  have HO:=qD hO
  have H1:=qD (flat_one recC_one xs)
  clear h hO
  have kn:=fun(w:World)=>Lib.run_eql_slice_nil (P:=Tryz.prog) w 25 81 (some ad) n c 0 0 Tryz.underlying25
  go_enter Tryz.func124,Tryz.ntmps124
  go_wp2_with (at_builtin;refine wpList_append_any _ rfl _ _ 25 rfl w.heap.size 81 j0 (aggC Ch.zero) 5 56 Tryz.underlying25 hj0 hy0 hy1 hy2 rfl (by decide) (.slice (some ⟨w.heap.size,0,none⟩) 0 0) 0 [] rfl HO.out w.heap.size (some ad) n c (flat recC xs) rfl (HR.out.alloc (qL) _) H1.out (by unfold maxLen;omega) (by omega) (by simp) ?_)
  intro v' w2 hown hg _
  go_wp2_with fail
  go_ret
  refine⟨v',rfl,by simpa using hown,?_⟩
  exact((Below.refl w.heap.size w).alloc (qL) _).grown hg (by simp) (fun k hk=>by simp[Value.ownBlock] at hk;omega)
theorem cloneO_any(xs:List OC)(A:Option Addr)(n c:Nat)(w:World)(h:SR 2 recO w A n c xs)(hn:n*32≤reach):
 Calls Tryz.prog 122 #[.slice A n c] w fun e w'=>∃v,e=.returned v∧w'.ownsRow w.heap.size 93 2 v n (flat recO xs)∧Below w.heap.size w w':=by
 obtain⟨j0,hj0,hy0,hy1,hy2⟩:=info_parts info_order
 have HL:=qD h.ln
 unfold reach at hn
 cases A with
 | none=>
  have h0:n=0:=by
   rcases Nat.eq_zero_or_pos n with h0|h0
   ·exact h0
   ·obtain⟨b,off,e,_⟩:=h.el h0;cases e
  subst h0
  have HX:Hid (xs=[]):=List.eq_nil_of_length_eq_zero HL.out.symm
  clear h
  have kn:=fun(w:World)=>Lib.run_eql_slice_nil (P:=Tryz.prog) w 22 93 none 0 c 0 0 Tryz.underlying22
  go_enter Tryz.func122,Tryz.ntmps122
  go_wp2_with fail
  go_ret
  exact⟨_,rfl,by rw[HX.out];exact own_nil _ _ _ _,Below.refl _ _⟩
 | some ad=>
  have HR:=qD (h.reads recO_length (by omega))
  have hO:(w.alloc (.cells #[] 93)).ownsRow w.heap.size 93 2 (.slice (some ⟨w.heap.size,0,none⟩) 0 0) 0 []:=
   ⟨rfl,.inr ⟨w.heap.size,0,#[],rfl,qL,Blk.new_at rfl,qL,Nat.zero_le _,rfl,rfl⟩⟩
  have HO:=qD hO
  have H1:=qD (flat_one recO_one xs)
  clear h hO
  have kn:=fun(w:World)=>Lib.run_eql_slice_nil (P:=Tryz.prog) w 22 93 (some ad) n c 0 0 Tryz.underlying22
  go_enter Tryz.func122,Tryz.ntmps122
  go_wp2_with (at_builtin;refine wpList_append_any _ rfl _ _ 22 rfl w.heap.size 93 j0 (aggO OC.zero) 2 32 Tryz.underlying22 hj0 hy0 hy1 hy2 rfl (by decide) (.slice (some ⟨w.heap.size,0,none⟩) 0 0) 0 [] rfl HO.out w.heap.size (some ad) n c (flat recO xs) rfl (HR.out.alloc (qL) _) H1.out (by unfold maxLen;omega) (by omega) (by simp) ?_)
  intro v' w2 hown hg _
  go_wp2_with fail
  go_ret
  refine⟨v',rfl,by simpa using hown,?_⟩
  exact((Below.refl w.heap.size w).alloc (qL) _).grown hg (by simp) (fun k hk=>by simp[Value.ownBlock] at hk;omega)
theorem cloneT_any(xs:List ByteArray)(A:Option Addr)(n c:Nat)(w:World)(h:SR 1 recT w A n c xs)(hn:n*16≤reach):
 Calls Tryz.prog 123 #[.slice A n c] w fun e w'=>∃v,e=.returned v∧w'.ownsRow w.heap.size 9 1 v n (flat recT xs)∧Below w.heap.size w w':=by
 obtain⟨j0,hj0,hy0,hy1,hy2⟩:=info_parts info_string
 have HL:=qD h.ln
 unfold reach at hn
 cases A with
 | none=>
  have h0:n=0:=by
   rcases Nat.eq_zero_or_pos n with h0|h0
   ·exact h0
   ·obtain⟨b,off,e,_⟩:=h.el h0;cases e
  subst h0
  have HX:Hid (xs=[]):=List.eq_nil_of_length_eq_zero HL.out.symm
  clear h
  have kn:=fun(w:World)=>Lib.run_eql_slice_nil (P:=Tryz.prog) w 47 9 none 0 c 0 0 Tryz.underlying47
  go_enter Tryz.func123,Tryz.ntmps123
  go_wp2_with fail
  go_ret
  exact⟨_,rfl,by rw[HX.out];exact own_nil _ _ _ _,Below.refl _ _⟩
 | some ad=>
  have HR:=qD (h.reads recT_length (by omega))
  have hO:(w.alloc (.cells #[] 9)).ownsRow w.heap.size 9 1 (.slice (some ⟨w.heap.size,0,none⟩) 0 0) 0 []:=
   ⟨rfl,.inr ⟨w.heap.size,0,#[],rfl,qL,Blk.new_at rfl,qL,Nat.zero_le _,rfl,rfl⟩⟩
  have HO:=qD hO
  have H1:=qD (flat_one recT_one xs)
  clear h hO
  have kn:=fun(w:World)=>Lib.run_eql_slice_nil (P:=Tryz.prog) w 47 9 (some ad) n c 0 0 Tryz.underlying47
  go_enter Tryz.func123,Tryz.ntmps123
  go_wp2_with (at_builtin;refine wpList_append_any _ rfl _ _ 47 rfl w.heap.size 9 j0 (.string ByteArray.empty) 1 16 Tryz.underlying47 hj0 hy0 hy1 hy2 rfl (by decide) (.slice (some ⟨w.heap.size,0,none⟩) 0 0) 0 [] rfl HO.out w.heap.size (some ad) n c (flat recT xs) rfl (HR.out.alloc (qL) _) H1.out (by unfold maxLen;omega) (by omega) (by simp) ?_)
  intro v' w2 hown hg _
  go_wp2_with fail
  go_ret
  refine⟨v',rfl,by simpa using hown,?_⟩
  exact((Below.refl w.heap.size w).alloc (qL) _).grown hg (by simp) (fun k hk=>by simp[Value.ownBlock] at hk;omega)
theorem flat_take{α:Type}{rec:α→List Value}{s:Nat}(hs:∀a,(rec a).length=s):∀(xs:List α) (k:Nat),(flat rec xs).take (k*s)=flat rec (xs.take k):=by
 intro xs
 induction xs with
 | nil=>intro k;simp[flat]
 | cons a l ih=>
  intro k
  cases k with
  | zero=>simp[flat]
  | succ k=>
   have e:∀(y:α) (t:List α),flat rec (y::t)=rec y++flat rec t:=fun _ _=>rfl
   rw[List.take_succ_cons,e,e,←ih k,show(k+1)*s=(rec a).length+k*s by rw[hs,Nat.add_mul];omega,List.take_length_add_append]
theorem flat_drop{α:Type}{rec:α→List Value}{s:Nat}(hs:∀a,(rec a).length=s):∀(xs:List α) (k:Nat),(flat rec xs).drop (k*s)=flat rec (xs.drop k):=by
 intro xs
 induction xs with
 | nil=>intro k;simp[flat]
 | cons a l ih=>
  intro k
  cases k with
  | zero=>simp[flat]
  | succ k=>
   have e:∀(y:α) (t:List α),flat rec (y::t)=rec y++flat rec t:=fun _ _=>rfl
   rw[List.drop_succ_cons,e,←ih k,show(k+1)*s=(rec a).length+k*s by rw[hs,Nat.add_mul];omega,List.drop_length_add_append]
theorem Reads.take{w:World}{B size n:Nat}{A:Option Addr}{xs:List Value}(h:Reads w B size A n xs){k:Nat}(hk:k≤n):Reads w B size A k (xs.take (k*size)):=by
 refine⟨by rw[List.length_take,h.1];exact Nat.min_eq_left (Nat.mul_le_mul_right _ hk),fun hn=>?_⟩
 obtain⟨ad,rfl,hb,hc⟩:=h.2 (by omega)
 refine⟨ad,rfl,hb,fun j u hu=>hc j u ?_⟩
 rw[List.getElem?_take] at hu
 split at hu
 ·exact hu
 ·cases hu
theorem Blk.setCells{g:Nat}{t:TypeId}:∀(vs:List Value) {l:List Value} (o:Nat) {w:World},Blk w g t l.toArray→Blk (w.setCells g o vs) g t (setList l o vs).toArray
 | [],_,_,_,h=>h
 | v::r,l,o,w,h=>by
  have h1:=h.set_ o v
  rw[show l.toArray.setIfInBounds o v=(l.set o v).toArray by simp] at h1
  exact Blk.setCells r (o+1) h1
theorem But.setCells{g:Nat}{w:World}:∀(vs:List Value) (o:Nat) {w1:World},But g w w1→But g w (w1.setCells g o vs)
 | [],_,_,h=>h
 | v::r,o,_,h=>But.setCells r (o+1) (h.set (p:=⟨g,o,none⟩) rfl v)
end Go.Proofs.YtlicnjecnehaoaaGreatDoor
