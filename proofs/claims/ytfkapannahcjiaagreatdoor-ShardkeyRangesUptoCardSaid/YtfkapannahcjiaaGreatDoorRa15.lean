/- Parts of the proof, joined: EncKey, EncKey2, CrcPure, Crc, ShCode, ShEnc, EncRef, EncOne, EncKeyR, ShCodeR, ShEncR, ShOrdPure, PrOrd. -/
import Derived.Test.YtfkapannahcjiaaGreatDoorRa1
import Derived.Test.YtfkapannahcjiaaGreatDoorRa14
import Derived.Test.YtfkapannahcjiaaGreatDoorRa6
import Derived.Test.YtfkapannahcjiaaGreatDoorRa13
import Derived.Test.YtfkapannahcjiaaGreatDoorRa2
import Derived.Test.YtfkapannahcjiaaGreatDoorRa12
import Derived.Test.YtfkapannahcjiaaGreatDoorRa3
import Derived.Laws.Concat
set_option maxRecDepth 100000
set_option maxHeartbeats 16000000
set_option linter.unusedSimpArgs false
namespace Go.Proofs.YtfkapannahcjiaaGreatDoor
open Go.RowKit
theorem size0(t:ByteArray):(t.toList==[])=decide (t.size=0):=by
 rw[ByteArray.toList_eq,←dsize]
 cases t.data.toList with
 | nil=>rfl
 | cons a r=>simp
theorem beq0(n:Nat):((n:Int)==0)=decide (n=0):=by
 by_cases h:n=0
 ·rw[h];rfl
 ·rw[decide_eq_false h]
  exact beq_eq_false_iff_ne.2 (by omega)
theorem allowed_any(x:Val)(c:VC)(w:World)(hT:Tabs w)(h:RW w c x):
 Calls Tryz.prog 91 #[c.val] w fun e w'=>e=.returned (.bool (allowB x))∧Below w.heap.size w w':=by
 have ho:=h.open
 have hvk:x.k=0→validV x=false:=fun e=>by
  cases hv:validV x
  ·rfl
  ·simp only[validV,Bool.and_eq_true] at hv
   have:=((SoundV_iff nameB x).1 (soundB_iff.1 hv.2)).1.kind
   omega
 have B0:Hid (Blk (w.alloc (.cells c.arr 29)) w.heap.size 29 c.arr):=Blk.new_at rfl
 have BE:Hid (Below w.heap.size w (w.alloc (.cells c.arr 29))):=(Below.refl _ _).alloc (qL) _
 have HV:=qD fun(w1:World) (hb:Below w.heap.size w w1)=>valid_any x c w1 (hT.step hb) (h.step hb)
 have hk:=ho.k
 have hn:=ho.n
 have ht:=ho.t
 have hl:=ho.ln
 have hd:=ho.dn
 have HK:=qD (And.intro hk (And.intro hn (And.intro ht (And.intro hl (And.intro hd hvk)))))
 clear hT h ho hk hn ht hl hd hvk
 go_enter Tryz.func91,Tryz.ntmps91
 go_upto_region 1 with fail
 change (Code.region 1 _ _).wp _ _ _ (w.alloc (.cells c.arr 29))
 generalize w.alloc (.cells c.arr 29)=wa at*
 obtain⟨b0,b1,b2,b3,b4⟩:=VAt.of_blk B0.out
 simp only[Nat.zero_add] at b0 b1 b2 b3 b4
 by_cases h0:c.k=0
 ·obtain⟨hk,hn,ht,hl,hd,hvk⟩:=HK.out
  have hva:=hvk (by rw[←hk];exact h0)
  have HA:Hid (allowB x=(decide (c.n=0)&&(decide (c.t.size=0)&&(decide (c.ln=0)&&decide (c.dn=0))))):=by
   unfold Hid allowB missB
   rw[hva,←hk,←hn,←ht,←hl,←hd,decide_eq_true h0]
   simp
  have hsz:=size0 c.t
  have P0:∀q:BW wa,q.val.cell? ⟨w.heap.size,0,none⟩=some (.int .i64 c.k):=fun q=>q.cell b0
  have P1:∀q:BW wa,q.val.cell? ⟨w.heap.size,1,none⟩=some (.int .i64 c.n):=fun q=>q.cell b1
  have P2:∀q:BW wa,q.val.cell? ⟨w.heap.size,2,none⟩=some (.string c.t):=fun q=>q.cell b2
  have P3:∀q:BW wa,q.val.cell? ⟨w.heap.size,3,none⟩=some (.slice c.LA c.ln c.lc):=fun q=>q.cell b3
  have P4:∀q:BW wa,q.val.cell? ⟨w.heap.size,4,none⟩=some (.slice c.DA c.dn c.dc):=fun q=>q.cell b4
  clear hk hn ht hl hd hva hvk
  go_upto_region 2 with fail
  by_cases h1:c.n=0
  ·by_cases h2:c.t.size=0
   ·have h2b:(c.t.toList==[])=true:=by rw[hsz,decide_eq_true h2]
    by_cases h3:c.ln=0
    ·go_wp2_with fail
     go_ret
     exact⟨by rw[HA.out];simp[h1,h2,h3,beq0],BE.out⟩
    ·go_wp2_with fail
     go_ret
     exact⟨by rw[HA.out];simp[h1,h2,h3],BE.out⟩
   ·have h2b:(c.t.toList==[])=false:=by rw[hsz,decide_eq_false h2]
    go_wp2_with fail
    go_ret
    exact⟨by rw[HA.out];simp[h1,h2],BE.out⟩
  ·go_wp2_with fail
   go_ret
   exact⟨by rw[HA.out];simp[h1],BE.out⟩
 ·obtain⟨hk,hn,ht,hl,hd,hvk⟩:=HK.out
  have h0b:(c.k==0)=false:=by simpa using h0
  have HA:Hid (allowB x=validV x):=by
   unfold Hid allowB missB
   rw[←hk,decide_eq_false h0]
   rfl
  clear hk hn ht hl hd hvk
  go_wp2_with fail
  refine(HV.out wa BE.out).mono ?_
  rintro e w1 ⟨rfl,hb⟩
  have CE:=qD (BE.out.step' hb)
  clear b0 b1 b2 b3 b4 hb HV B0
  go_wp2_with fail
  go_ret
  exact⟨by rw[HA.out];rfl,CE.out⟩
theorem missing_any(x:Val)(c:VC)(w:World)(h:RW w c x):
 Calls Tryz.prog 123 #[c.val] w fun e w'=>e=.returned (.bool (missB x))∧Below w.heap.size w w':=by
 have ho:=h.open
 have hk:=ho.k
 have hn:=ho.n
 have ht:=ho.t
 have hl:=ho.ln
 have hd:=ho.dn
 have HA:Hid (missB x=(decide (c.k=0)&&(decide (c.n=0)&&(decide (c.t.size=0)&&(decide (c.ln=0)&&decide (c.dn=0)))))):=by
  unfold Hid missB
  rw[←hk,←hn,←ht,←hl,←hd]
 clear hk hn ht hl hd h ho
 have B0:Hid (Blk (w.alloc (.cells c.arr 29)) w.heap.size 29 c.arr):=Blk.new_at rfl
 have BE:Hid (Below w.heap.size w (w.alloc (.cells c.arr 29))):=(Below.refl _ _).alloc (qL) _
 have hsz:=size0 c.t
 go_enter Tryz.func123,Tryz.ntmps123
 go_upto_region 1 with fail
 change (Code.region 1 _ _).wp _ _ _ (w.alloc (.cells c.arr 29))
 generalize w.alloc (.cells c.arr 29)=wa at*
 obtain⟨b0,b1,b2,b3,b4⟩:=VAt.of_blk B0.out
 simp only[Nat.zero_add] at b0 b1 b2 b3 b4
 by_cases h0:c.k=0
 ·by_cases h1:c.n=0
  ·by_cases h2:c.t.size=0
   ·have h2b:(c.t.toList==[])=true:=by rw[hsz,decide_eq_true h2]
    by_cases h3:c.ln=0
    ·go_wp2_with fail
     go_ret
     exact⟨by rw[HA.out];simp[h0,h1,h2,h3,beq0],BE.out⟩
    ·go_wp2_with fail
     go_ret
     exact⟨by rw[HA.out];simp[h0,h1,h2,h3],BE.out⟩
   ·have h2b:(c.t.toList==[])=false:=by rw[hsz,decide_eq_false h2]
    go_wp2_with fail
    go_ret
    exact⟨by rw[HA.out];simp[h0,h1,h2],BE.out⟩
  ·go_wp2_with fail
   go_ret
   exact⟨by rw[HA.out];simp[h0,h1],BE.out⟩
 ·have h0b:(c.k==0)=false:=by simpa using h0
  go_wp2_with fail
  go_ret
  exact⟨by rw[HA.out];simp[h0],BE.out⟩
noncomputable def allowsB(l:List Val):Bool:=l.all allowB
noncomputable def keyR(l:List Val):ByteArray×Int:=if allowsB l then(strOfNums (encAll l),0) else(ByteArray.empty,8)
theorem keyR_yes{l:List Val}(h:allowsB l=true):keyR l=(strOfNums (encAll l),0):=if_pos h
theorem keyR_no{l:List Val}{i:Nat}{y:Val}(hy:l[i]?=some y)(h:allowB y=false):keyR l=(ByteArray.empty,8):=by
 have:allowsB l=false:=by
  unfold allowsB
  rw[List.all_eq_false]
  exact⟨y,List.mem_of_getElem? hy,by rw[h];decide⟩
 unfold keyR
 rw[this]
 rfl
theorem allows_snoc{l:List Val}{i:Nat}{y:Val}(hy:l[i]?=some y)(ha:allowsB (l.take i)=true)(h:allowB y=true):allowsB (l.take (i+1))=true:=by
 unfold allowsB at*
 rw[take_snoc' hy,List.all_append,ha]
 simp[h]
theorem encAll_len{l:List Val}(h:allowsB l=true):(encAll l).length≤8500000*l.length:=by
 induction l with
 | nil=>simp[encAll]
 | cons a r ih=>
  have e:encAll (a::r)=encV a++encAll r:=rfl
  unfold allowsB at h
  rw[List.all_cons,Bool.and_eq_true] at h
  have h1:=(allow_enc h.1).2
  have h2:=ih h.2
  rw[e,List.length_append,List.length_cons]
  omega
def recX(b:Bool):List Value:=[.bool b]
theorem own_str{w:World}{base m:Nat}{v:Value}{xs:List Int}(h:w.ownsRow base 5 1 v m (bytesC xs))(hm:m=xs.length):(convert 108 9 v).run Tryz.prog w=.ok (.string (strOfNums xs)) w:=by
 rcases h.2 with⟨rfl,rfl⟩|⟨g,cap,cur,rfl,_⟩
 ·have:xs=[]:=List.eq_nil_of_length_eq_zero hm.symm
  subst this
  exact run_convert_bytes_nil (P:=Tryz.prog) w 108 5 Tryz.underlying108 Tryz.underlying5 0 0 9 Tryz.underlying9
 ·refine run_convert_bytes_arg (P:=Tryz.prog) w 108 5 Tryz.underlying108 Tryz.underlying5 g 0 m cap xs hm.symm (fun i hi=>?_) 9 Tryz.underlying9
  have hx:xs[i]?=some (xs.getD i 0):=by rw[List.getD_eq_getElem?_getD,List.getElem?_eq_getElem (by omega)];rfl
  have:=h.cells (g:=g) rfl i (.int .u8 (xs.getD i 0)) (by unfold bytesC;rw[List.getElem?_map,hx];rfl)
  rwa [addr_add] at this
structure EkI(w:World)(v:Value)(m:Nat)(l:List Int)(wr:World):Prop where
 own:wr.ownsRow w.heap.size 5 1 v m (bytesC l)
 ln:m=l.length
 bel:Below w.heap.size w wr
theorem EkI.step{w wr w':World}{v:Value}{m:Nat}{l:List Int}(h:EkI w v m l wr)(hb:Below wr.heap.size wr w'):EkI w v m l w':=⟨own_step h.own hb,h.ln,h.bel.step' hb⟩
theorem EkI.call{w wr w':World}{v:Value}{m:Nat}{l l':List Int}{e:Ending}(h:EkI w v m l wr)(ha:AppOk w.heap.size v l' wr e w'):∃v',e=.returned v'∧EkI w v' l'.length l' w':=by
 obtain⟨v',he,ho,hg,hb⟩:=ha
 exact⟨v',he,ho,rfl,h.bel.grown hg h.bel.size fun g hg'=>own_ge h.own g hg'⟩
theorem encode_any(ps:List PV)(A B:Option Addr)(n c bc:Nat)(w:World)(hT:Tabs w)(h:SL (fun _=>True) w A n c ps)(hd:SR 1 recX w B n bc (List.replicate n false))(hn:n≤10):
 Calls Tryz.prog 39 #[.slice A n c,.slice B n bc] w fun e w'=>e=.returned (.tuple #[.string (keyR (ps.map Prod.snd)).1,.int .i64 (keyR (ps.map Prod.snd)).2])∧Below w.heap.size w w':=by
 have HT:=qD hT
 have H:=qD h
 have HD:=qD hd
 have HL:Hid (n=ps.length):=h.sr.ln
 clear hT h hd
 have I0:Hid (EkI w (.slice none 0 0) 0 [] w):=⟨own_nil _ _ _ _,rfl,Below.refl _ _⟩
 go_enter Tryz.func39,Tryz.ntmps39
 go_upto_region 5 with fail
 go_loopw [6,7,8,9,10,18] (fun u6 _ _ _ _ u18 wr=>∃i m:Nat,i≤n∧u18=.int .i64 i∧allowsB ((ps.map Prod.snd).take i)=true∧EkI w u6 m (encAll ((ps.map Prod.snd).take i)) wr) (fun _ _ _ _ _ u18 _=>n-(intOf u18).toNat)
 case atStart=>exact⟨0,0,Nat.zero_le _,rfl,rfl,I0.out⟩
 case round=>
  obtain⟨i,m,hi,rfl,hal,J⟩:=hrel
  have J2:=qD J
  have HAL:=qD hal
  have hmb:m≤85000000:=by
   have h1:=J.ln
   have h2:=encAll_len hal
   have h3:((ps.map Prod.snd).take i).length≤i:=List.length_take_le _ _
   omega
  clear J hal I0
  obtain⟨Am,cm,hvm,hlm⟩:=own_slice J2.out.own
  subst hvm
  by_cases hlt:i<n
  ·obtain⟨p,hp⟩:∃p,ps[i]?=some p:=⟨_,List.getElem?_eq_getElem (by have:=HL.out;omega)⟩
   obtain⟨b,off,hA,_,hat,hrv⟩:=H.out.vat hp
   subst hA
   have hpl:(ps.map Prod.snd)[i]?=some p.2:=by rw[List.getElem?_map,hp];rfl
   obtain⟨q0,q1,q2,q3,q4⟩:=hat.step J2.out.bel
   have hbw:b<wr.heap.size:=World.block_lt_of_cell? wr _ q0
   have HR:=qD hrv.lt
   have HPL:=qD hpl
   have i0':(0:Int)≤(i:Int):=by omega
   have i1':(i:Int)<(n:Int):=by omega
   clear hp hat hrv hpl
   go_upto_region 7 with fail
   change (Code.region 7 _ _).wp _ _ _ (wr.alloc (.cells p.1.arr 29))
   have JB:Hid (Blk (wr.alloc (.cells p.1.arr 29)) wr.heap.size 29 p.1.arr):=Blk.new_at rfl
   have J3:=qD (J2.out.step ((Below.refl wr.heap.size wr).alloc (qL) (Obj.cells p.1.arr 29)))
   have NE:(Value.slice Am m cm).ownBlock≠some wr.heap.size:=fun e=>absurd (own_lt J2.out.own e) (by omega)
   generalize wr.alloc (.cells p.1.arr 29)=wa at*
   generalize wr.heap.size=ga at*
   clear q0 q1 q2 q3 q4 J2
   obtain⟨q0,q1,q2,q3,q4⟩:=VAt.of_blk JB.out
   simp only[Nat.zero_add] at q0 q1 q2 q3 q4
   have HAW:=qD (allowed_any p.2 p.1 wa (HT.out.step J3.out.bel) ((HR.out.keepG fun b hb _=>⟨trivial,J3.out.bel.block b hb.2⟩)))
   cases hA:allowB p.2
   ·have HK:=qD (keyR_no HPL.out hA)
    rw[hA] at HAW
    clear hA
    go_wp2_with fail
    refine HAW.out.mono ?_
    rintro e w1 ⟨rfl,hb⟩
    have J4:=qD (J3.out.step hb)
    clear q0 q1 q2 q3 q4 hb HAW J3 JB
    go_wp2_with fail
    go_ret2
    exact⟨by rw[HK.out];rfl,J4.out.bel⟩
   ·have HSN:=qD (encAll_snoc HPL.out)
    have HAS:=qD (allows_snoc HPL.out HAL.out hA)
    have HE1:=qD (allow_enc hA)
    rw[hA] at HAW
    clear hA
    go_wp2_with fail
    refine HAW.out.mono ?_
    rintro e w1 ⟨rfl,hb⟩
    have J4:=qD (J3.out.step hb)
    have JB2:=qD (JB.out.step hb)
    clear q0 q1 q2 q3 q4 hb HAW J3 JB
    obtain⟨q0,q1,q2,q3,q4⟩:=VAt.of_blk JB2.out
    simp only[Nat.zero_add] at q0 q1 q2 q3 q4
    have hap:=app_any p.2 p.1 (.slice Am m cm) (encAll ((ps.map Prod.snd).take i)) w.heap.size m w1 (HR.out.keepG fun b hb _=>⟨hb.2,J4.out.bel.block b hb.2⟩) HE1.out.1 J4.out.bel.size J4.out.ln J4.out.own (by have h1:=J4.out.ln;have h2:=HE1.out.2;omega)
    have HAP:=qD hap
    clear hap
    go_upto_region 10 with fail
    go_wp2_with fail
    refine HAP.out.mono ?_
    rintro e w2 hok
    obtain⟨v3,rfl,hJ5⟩:=J4.out.call hok
    rw[←HSN.out] at hJ5
    have J5:=qD hJ5
    clear q0 q1 q2 q3 q4 HAP hok hJ5 J4 JB2
    obtain⟨b',off',hB,hbB,hel⟩:=HD.out.el (by omega)
    have hde:=hel i false (by rw[List.getElem?_replicate,if_pos hlt]) 0 _ rfl
    have hde2:=(J5.out.bel.cell (p:=⟨b',off'+i*1+0,none⟩) hbB).trans hde
    rw[Nat.mul_one,Nat.add_zero] at hde2
    subst hB
    clear hel hde
    obtain⟨A3,c3,hv3,hlc3⟩:=own_slice J5.out.own
    subst hv3
    go_wp2_with fail
    go_roundw
    case rel=>exact⟨i+1,_,hlt,by go_num,HAS.out,J5.out⟩
    case measure=>simp[intOf];omega
  ·obtain rfl:i=n:=by omega
   have hTK:(ps.map Prod.snd).take i=ps.map Prod.snd:=List.take_of_length_le (by rw[List.length_map];have:=HL.out;omega)
   have hal:=HAL.out
   have hln:=J2.out.ln
   have hcv:=own_str J2.out.own J2.out.ln
   rw[hTK] at hal hcv
   obtain⟨Z,hZ⟩:∃Z,Z=strOfNums (encAll (ps.map Prod.snd)):=⟨_,rfl⟩
   rw[←hZ] at hcv
   have HK:Hid (keyR (ps.map Prod.snd)=(Z,0)):=by rw[hZ];exact keyR_yes hal
   clear hTK hal hln hZ
   go_wp2_with fail
   go_ret2
   exact⟨by rw[HK.out];rfl,J2.out.bel⟩
def crcStep(r:Nat):Nat:=if r%2=1 then(r/2) ^^^ 2197175160 else r/2
def crcSteps(r:Nat):Nat→Nat
 | 0=>r
 | k+1=>crcStep (crcSteps r k)
def crcByte(r b:Nat):Nat:=crcSteps (r ^^^ b) 8
def crcL(r:Nat)(l:List UInt8):Nat:=l.foldl (fun r x=>crcByte r x.toNat) r
def crcSum(s:ByteArray):Nat:=crcL 4294967295 s.data.toList ^^^ 4294967295
theorem xor32{a b:Nat}(ha:a<4294967296)(hb:b<4294967296):a ^^^ b<4294967296:=Nat.xor_lt_two_pow (n:=32) ha hb
theorem crcStep_lt{r:Nat}(h:r<4294967296):crcStep r<4294967296:=by
 unfold crcStep
 split
 ·exact xor32 (by omega) (by omega)
 ·omega
theorem crcSteps_lt{r:Nat}(h:r<4294967296):∀k,crcSteps r k<4294967296
 | 0=>h
 | k+1=>crcStep_lt (crcSteps_lt h k)
theorem crcByte_lt{r b:Nat}(h:r<4294967296)(hb:b<256):crcByte r b<4294967296:=crcSteps_lt (xor32 h (by omega)) 8
theorem crcL_lt(l:List UInt8):∀{r:Nat},r<4294967296→crcL r l<4294967296:=by
 induction l with
 | nil=>intro r h;exact h
 | cons x l ih=>
  intro r h
  exact ih (crcByte_lt h (by have:=x.toNat_lt;omega))
theorem crcSum_lt(s:ByteArray):crcSum s<4294967296:=by
 unfold crcSum
 exact xor32 (crcL_lt _ (by omega)) (by omega)
theorem crcL_snoc{r:Nat}{l:List UInt8}{i:Nat}{x:UInt8}(h:l[i]?=some x):crcL r (l.take (i+1))=crcByte (crcL r (l.take i)) x.toNat:=by
 unfold crcL
 rw[List.take_add_one,h,List.foldl_append]
 simp only[Option.toList,List.foldl_cons,List.foldl_nil]
theorem ofInt_u32(a:Nat)(ha:a<4294967296):(BitVec.ofInt 32 (a:Int)).toNat=a:=by
 rw[BitVec.ofInt_natCast,BitVec.toNat_ofNat];exact Nat.mod_eq_of_lt (by omega)
theorem u32_and_one(a:Nat)(ha:a<4294967296):bits .and .u32 (a:Int) 1=((a%2:Nat):Int):=by
 have e:(BitVec.ofInt 32 (1:Int)).toNat=1:=by decide
 show IntKind.u32.wrap ((BitVec.ofInt 32 (a:Int)&&& BitVec.ofInt 32 (1:Int)).toNat:Int)=_
 rw[BitVec.toNat_and,ofInt_u32 a ha,e,Nat.and_one_is_mod,IntKind.wrap_u32]
 omega
theorem u32_xor_nat(a b:Nat)(ha:a<4294967296)(hb:b<4294967296):bits .xor .u32 (a:Int) (b:Int)=((a ^^^ b:Nat):Int):=by
 have hx:=xor32 ha hb
 show IntKind.u32.wrap ((BitVec.ofInt 32 (a:Int) ^^^ BitVec.ofInt 32 (b:Int)).toNat:Int)=_
 rw[BitVec.toNat_xor,ofInt_u32 a ha,ofInt_u32 b hb,IntKind.wrap_u32]
 omega
theorem dsize'(t:ByteArray):t.data.toList.length=t.size:=by rw[Array.length_toList];rfl
theorem half_nat(r:Nat):(r:Int)/2=((r/2:Nat):Int):=by omega
theorem wrapu32{a:Nat}(h:a<4294967296):IntKind.u32.wrap (a:Int)=(a:Int):=by rw[IntKind.wrap_u32];omega
theorem mod2_ways(r:Nat):(r%2=1∧crcStep r=(r/2) ^^^ 2197175160)∨(r%2=0∧crcStep r=r/2):=by
 unfold crcStep
 rcases Nat.mod_two_eq_zero_or_one r with h|h
 ·exact .inr ⟨h,by rw[if_neg (by omega)]⟩
 ·exact .inl ⟨h,by rw[if_pos h]⟩
theorem step_facts{r:Nat}(hr:r<4294967296):∃o h c:Nat,bits .and .u32 (r:Int) 1=(o:Int)∧(r:Int)/2=(h:Int)∧IntKind.u32.wrap (h:Int)=(h:Int)∧bits .xor .u32 (h:Int) 2197175160=(c:Int)∧h<4294967296∧((o=1∧crcStep r=c)∨(o=0∧crcStep r=h)):=by
 refine⟨r%2,r/2,(r/2) ^^^ 2197175160,u32_and_one r hr,half_nat r,wrapu32 (by omega),u32_xor_nat (r/2) 2197175160 (by omega) (by omega),by omega,?_⟩
 rcases mod2_ways r with⟨h1,h2⟩|⟨h1,h2⟩
 ·exact .inl ⟨h1,h2⟩
 ·exact .inr ⟨h1,h2⟩
theorem crc_any(s:ByteArray)(w:World)(hs:s.size≤140737488355328):Calls Tryz.prog 54 #[.string s] w fun e w'=>e=.returned (.int .u32 ((crcSum s:Nat):Int))∧w'=w:=by
 go_enter Tryz.func54,Tryz.ntmps54
 go_upto_region 3 with fail
 go_loopw [3,4,5,8,17] (fun u3 _ _ u8 _ wr=>∃i:Nat,i≤s.size∧u8=.int .i64 i∧u3=.int .u32 ((crcL 4294967295 (s.data.toList.take i):Nat):Int)∧wr=w) (fun _ _ _ u8 _ _=>s.size-(intOf u8).toNat)
 case atStart=>exact⟨0,Nat.zero_le _,rfl,rfl,rfl⟩
 case round=>
  obtain⟨i,hi,rfl,rfl,rfl⟩:=hrel
  have hlt32:=crcL_lt (s.data.toList.take i) (r:=4294967295) (by omega)
  obtain⟨r,hr⟩:∃r,r=crcL 4294967295 (s.data.toList.take i):=⟨_,rfl⟩
  rw[←hr] at hlt32 ⊢
  have HR:=qD hr
  clear hr
  have sz:(s.size:Int)≤140737488355328:=by omega
  have i0:(0:Int)≤(i:Int):=by omega
  by_cases hlt:i<s.size
  ·have hx:=s[i].toNat_lt
   have HSN:=qD (crcL_snoc (r:=4294967295) (bytes_at s i hlt))
   obtain⟨b,hb⟩:∃b,b=s[i].toNat:=⟨_,rfl⟩
   have hbw:IntKind.u32.wrap (s[i].toNat:Int)=(b:Int):=by rw[hb];exact wrapu32 (by omega)
   have hxr:=u32_xor_nat r b hlt32 (by omega)
   obtain⟨r0,hr0⟩:∃r0,r0=r ^^^ b:=⟨_,rfl⟩
   have hr0l:r0<4294967296:=by rw[hr0];exact xor32 hlt32 (by omega)
   rw[←hr0] at hxr
   have i1:(i:Int)<(s.size:Int):=by omega
   have HNX:Hid (crcL 4294967295 (s.data.toList.take (i+1))=crcSteps r0 8):=by
    refine HSN.out.trans ?_
    rw[hr0,HR.out,hb]
    rfl
   have HR0:=qD hr0l
   clear hb hr0
   go_upto_region 7 with fail
   clear hxr hbw hx hr0l HSN
   go_loopw [3,5,17] (fun u3 _ u17 wx=>∃k:Nat,k≤8∧u17=.int .i64 k∧u3=.int .u32 ((crcSteps r0 k:Nat):Int)∧wx=wr) (fun _ _ u17 _=>9-(intOf u17).toNat)
   case atStart=>exact⟨0,Nat.zero_le _,rfl,rfl,rfl⟩
   case round=>
    obtain⟨k,hk,rfl,rfl,rfl⟩:=hrel
    have hl:=crcSteps_lt HR0.out k
    have hstep:crcSteps r0 (k+1)=crcStep (crcSteps r0 k):=rfl
    obtain⟨r1,hr1⟩:∃r1,r1=crcSteps r0 k:=⟨_,rfl⟩
    rw[←hr1] at hl hstep ⊢
    have HR1:=qD hr1
    have HST:=qD hstep
    clear hr1 hstep
    by_cases hk8:k<8
    ·obtain⟨o,h,c,f1,f2,f3,f4,f5,f6⟩:=step_facts hl
     have HL:=qD hl
     have k0:(0:Int)≤(k:Int):=by omega
     clear hl
     rcases f6 with⟨rfl,f7⟩|⟨rfl,f7⟩
     ·have HF:=qD f7
      clear f7
      go_wp2_with fail
      go_roundw
      case rel=>exact⟨k+1,hk8,by go_num,by rw[HST.out,HF.out],trivial⟩
      case measure=>simp[intOf];omega
     ·have HF:=qD f7
      clear f7
      go_wp2_with fail
      go_roundw
      case rel=>exact⟨k+1,hk8,by go_num,by rw[HST.out,HF.out],trivial⟩
      case measure=>simp[intOf];omega
    ·obtain rfl:k=8:=by omega
     go_wp2_with fail
     go_roundw
     case rel=>exact⟨i+1,hlt,by go_num,by rw[HNX.out,←HR1.out],trivial⟩
     case measure=>simp[intOf];omega
  ·obtain rfl:i=s.size:=by omega
   have hTK:s.data.toList.take s.size=s.data.toList:=List.take_of_length_le (by rw[dsize'];exact qL)
   have HX:Hid (bits .xor .u32 IntKind.u32.max (r:Int)=((crcSum s:Nat):Int)):=by
    have e:=u32_xor_nat 4294967295 r (by omega) hlt32
    rw[Nat.xor_comm] at e
    unfold Hid crcSum
    rw[←hTK,←HR.out]
    exact e
   clear hTK
   go_wp2_with fail
   go_ret
   exact⟨by rw[←HX.out];rfl,rfl⟩
theorem rcrc_any(s:ByteArray)(w:World)(hs:s.size≤140737488355328):Calls Tryz.prog 81 #[.string s] w fun e w'=>e=.returned (.int .u32 ((crcSum s:Nat):Int))∧w'=w:=by
 go_enter Tryz.func81,Tryz.ntmps81
 go_upto_region 3 with fail
 go_loopw [3,4,5,6] (fun u3 u8 _ _ wr=>∃i:Nat,i≤s.size∧u8=.int .i64 i∧u3=.int .u32 ((crcL 4294967295 (s.data.toList.take i):Nat):Int)∧wr=w) (fun _ u8 _ _ _=>s.size-(intOf u8).toNat)
 case atStart=>exact⟨0,Nat.zero_le _,rfl,rfl,rfl⟩
 case round=>
  obtain⟨i,hi,rfl,rfl,rfl⟩:=hrel
  have hlt32:=crcL_lt (s.data.toList.take i) (r:=4294967295) (by omega)
  obtain⟨r,hr⟩:∃r,r=crcL 4294967295 (s.data.toList.take i):=⟨_,rfl⟩
  rw[←hr] at hlt32 ⊢
  have HR:=qD hr
  clear hr
  have sz:(s.size:Int)≤140737488355328:=by omega
  have i0:(0:Int)≤(i:Int):=by omega
  by_cases hlt:i<s.size
  ·have hx:=s[i].toNat_lt
   have HSN:=qD (crcL_snoc (r:=4294967295) (bytes_at s i hlt))
   obtain⟨b,hb⟩:∃b,b=s[i].toNat:=⟨_,rfl⟩
   have hbw:IntKind.u32.wrap (s[i].toNat:Int)=(b:Int):=by rw[hb];exact wrapu32 (by omega)
   have hxr:=u32_xor_nat r b hlt32 (by omega)
   obtain⟨r0,hr0⟩:∃r0,r0=r ^^^ b:=⟨_,rfl⟩
   have hr0l:r0<4294967296:=by rw[hr0];exact xor32 hlt32 (by omega)
   rw[←hr0] at hxr
   have i1:(i:Int)<(s.size:Int):=by omega
   have HNX:Hid (crcL 4294967295 (s.data.toList.take (i+1))=crcSteps r0 8):=by
    refine HSN.out.trans ?_
    rw[hr0,HR.out,hb]
    rfl
   have HR0:=qD hr0l
   clear hb hr0
   go_upto_region 7 with fail
   clear hxr hbw hx hr0l HSN
   go_loopw [3,5,6] (fun u3 u17 _ wx=>∃k:Nat,k≤8∧u17=.int .i64 k∧u3=.int .u32 ((crcSteps r0 k:Nat):Int)∧wx=wr) (fun _ u17 _ _=>9-(intOf u17).toNat)
   case atStart=>exact⟨0,Nat.zero_le _,rfl,rfl,rfl⟩
   case round=>
    obtain⟨k,hk,rfl,rfl,rfl⟩:=hrel
    have hl:=crcSteps_lt HR0.out k
    have hstep:crcSteps r0 (k+1)=crcStep (crcSteps r0 k):=rfl
    obtain⟨r1,hr1⟩:∃r1,r1=crcSteps r0 k:=⟨_,rfl⟩
    rw[←hr1] at hl hstep ⊢
    have HR1:=qD hr1
    have HST:=qD hstep
    clear hr1 hstep
    by_cases hk8:k<8
    ·obtain⟨o,h,c,f1,f2,f3,f4,f5,f6⟩:=step_facts hl
     have HL:=qD hl
     have k0:(0:Int)≤(k:Int):=by omega
     clear hl
     rcases f6 with⟨rfl,f7⟩|⟨rfl,f7⟩
     ·have HF:=qD f7
      clear f7
      go_wp2_with fail
      go_roundw
      case rel=>exact⟨k+1,hk8,by go_num,by rw[HST.out,HF.out],trivial⟩
      case measure=>simp[intOf];omega
     ·have HF:=qD f7
      clear f7
      go_wp2_with fail
      go_roundw
      case rel=>exact⟨k+1,hk8,by go_num,by rw[HST.out,HF.out],trivial⟩
      case measure=>simp[intOf];omega
    ·obtain rfl:k=8:=by omega
     go_wp2_with fail
     go_roundw
     case rel=>exact⟨i+1,hlt,by go_num,by rw[HNX.out,←HR1.out],trivial⟩
     case measure=>simp[intOf];omega
  ·obtain rfl:i=s.size:=by omega
   have hTK:s.data.toList.take s.size=s.data.toList:=List.take_of_length_le (by rw[dsize'];exact qL)
   have HX:Hid (bits .xor .u32 (r:Int) 4294967295=((crcSum s:Nat):Int)):=by
    have e:=u32_xor_nat r 4294967295 hlt32 (by omega)
    unfold Hid crcSum
    rw[←hTK,←HR.out]
    exact e
   clear hTK
   go_wp2_with fail
   go_ret
   exact⟨by rw[←HX.out];rfl,rfl⟩
noncomputable def hashV(x:Val):Int:=if allowB x then((crcSum (strOfNums (encV x)):Nat):Int) else 0
theorem hashV_range(x:Val):0≤hashV x∧hashV x<4294967296:=by
 unfold hashV
 split
 ·have:=crcSum_lt (strOfNums (encV x));omega
 ·omega
theorem keyR_one_yes{x:Val}(h:allowB x=true):keyR [x]=(strOfNums (encV x),0):=by
 have e:encAll [x]=encV x:=by simp[encAll]
 rw[keyR_yes (by simp[allowsB,h]),e]
theorem keyR_one_no{x:Val}(h:allowB x=false):keyR [x]=(ByteArray.empty,8):=keyR_no (i:=0) rfl h
theorem sl_one{w:World}{g:Nat}{c:VC}{x:Val}(h:Blk w g 29 c.arr)(hr:RW w c x):SL (fun _=>True) w (some ⟨g,0,none⟩) 1 1 [(c,x)]:=by
 refine⟨⟨rfl,qL,fun _=>⟨g,0,rfl,h.lt,fun i a hi j v hj=>?_⟩⟩,by decide,fun _=>⟨g,0,rfl,Ft.top⟩,fun p hp=>?_⟩
 ·cases i with
  | zero=>
   simp at hi
   subst hi
   have:=vat_cell (VAt.of_blk h) j v hj
   simpa using this
  | succ i=>simp at hi
 ·simp at hp
  subst hp
  exact hr
theorem sx_one{w:World}{g:Nat}{t:TypeId}(h:Blk w g t #[.bool false]):SR 1 recX w (some ⟨g,0,none⟩) 1 1 (List.replicate 1 false):=by
 refine⟨rfl,qL,fun _=>⟨g,0,rfl,h.lt,fun i a hi j v hj=>?_⟩⟩
 cases i with
 | zero=>
  simp at hi
  subst hi
  cases j with
  | zero=>simp[recX] at hj;subst hj;exact h.cell 0
  | succ j=>simp[recX] at hj
 | succ i=>simp at hi
theorem code_any(x:Val)(c:VC)(w:World)(hT:Tabs w)(h:RW w c x):
 Calls Tryz.prog 53 #[c.val] w fun e w'=>e=.returned (.tuple #[.string (keyR [x]).1,.int .i64 (keyR [x]).2])∧Below w.heap.size w w':=by
 have H:=qD h
 have HT:=qD hT
 have BE:Hid (Below w.heap.size w (((w.alloc (.cells c.arr 29)).alloc (.cells c.arr 29)).alloc (.cells #[.bool false] 4))):=(((Below.refl _ _).alloc (qL) _).alloc (by simp) _).alloc (by simp;omega) _
 have B1:Hid (Blk (((w.alloc (.cells c.arr 29)).alloc (.cells c.arr 29)).alloc (.cells #[.bool false] 4)) (w.heap.size+1) 29 c.arr):=(Blk.new_at (by simp)).alloc _
 have B2:Hid (Blk (((w.alloc (.cells c.arr 29)).alloc (.cells c.arr 29)).alloc (.cells #[.bool false] 4)) (w.heap.size+2) 4 #[.bool false]):=Blk.new_at (by simp)
 obtain⟨wb,hwb⟩:∃wb,wb=(((w.alloc (.cells c.arr 29)).alloc (.cells c.arr 29)).alloc (.cells #[.bool false] 4)):=⟨_,rfl⟩
 rw[←hwb] at BE B1 B2
 have HC:=qD (encode_any [(c,x)] (some ⟨w.heap.size+1,0,none⟩) (some ⟨w.heap.size+2,0,none⟩) 1 1 1 wb (HT.out.step BE.out) (sl_one B1.out (H.out.step BE.out)) (sx_one B2.out) (by omega))
 rw[hwb] at HC
 have HWB:=qD hwb
 clear h hT hwb
 simp only[List.map_cons,List.map_nil] at HC
 obtain⟨K,hK⟩:∃K,keyR [x]=K:=⟨_,rfl⟩
 rw[hK] at HC ⊢
 clear hK
 obtain⟨K1,K2⟩:=K
 go_enter Tryz.func53,Tryz.ntmps53
 go_wp2_with fail
 refine HC.out.mono ?_
 rintro e w1 ⟨rfl,hb⟩
 rw[←HWB.out] at hb
 have CE:=qD (BE.out.step' hb)
 clear hb HC B1 B2
 go_wp2_with fail
 go_ret2
 exact⟨rfl,CE.out⟩
theorem hash_any(x:Val)(c:VC)(w:World)(hT:Tabs w)(h:RW w c x):
 Calls Tryz.prog 20 #[c.val] w fun e w'=>e=.returned (.int .i64 (hashV x))∧Below w.heap.size w w':=by
 have H:=qD h
 have B0:Hid (Blk (w.alloc (.cells c.arr 29)) w.heap.size 29 c.arr):=Blk.new_at rfl
 have BE:Hid (Below w.heap.size w (w.alloc (.cells c.arr 29))):=(Below.refl _ _).alloc (qL) _
 have HC:=qD fun(w1:World) (hb:Below w.heap.size w w1)=>code_any x c w1 (hT.step hb) (h.step hb)
 clear h hT
 go_enter Tryz.func20,Tryz.ntmps20
 go_upto_region 1 with fail
 change (Code.region 1 _ _).wp _ _ _ (w.alloc (.cells c.arr 29))
 generalize w.alloc (.cells c.arr 29)=wa at*
 obtain⟨q0,q1,q2,q3,q4⟩:=VAt.of_blk B0.out
 simp only[Nat.zero_add] at q0 q1 q2 q3 q4
 have HCA:=qD (HC.out wa BE.out)
 cases hA:allowB x
 ·have HV:Hid (hashV x=0):=by unfold Hid hashV;rw[hA];rfl
  rw[keyR_one_no hA] at HCA
  clear hA HC
  go_wp2_with fail
  refine HCA.out.mono ?_
  rintro e w1 ⟨rfl,hb⟩
  have CE:=qD (BE.out.step' hb)
  clear q0 q1 q2 q3 q4 hb HCA B0
  go_wp2_with fail
  go_ret
  exact⟨by rw[HV.out];rfl,CE.out⟩
 ·have HV:Hid (hashV x=((crcSum (strOfNums (encV x)):Nat):Int)):=by unfold Hid hashV;rw[hA];rfl
  have hz:=(allow_enc hA).2
  have hzz:(strOfNums (encV x)).size≤140737488355328:=by rw[strOfNums_size];omega
  rw[keyR_one_yes hA] at HCA
  have hlt:=crcSum_lt (strOfNums (encV x))
  obtain⟨S,hS⟩:∃S,S=strOfNums (encV x):=⟨_,rfl⟩
  rw[←hS] at HCA HV hzz hlt
  have HZ:=qD hzz
  obtain⟨q,hq⟩:∃q,q=crcSum S:=⟨_,rfl⟩
  rw[←hq] at HV hlt
  have HQ:=qD hq
  have qz:(q:Int)<4294967296:=by omega
  clear hA HC hS hz hzz hlt hq
  go_wp2_with fail
  refine HCA.out.mono ?_
  rintro e w1 ⟨rfl,hb⟩
  have CE:=qD (BE.out.step' hb)
  clear q0 q1 q2 q3 q4 hb HCA B0
  go_wp2_with fail
  refine(crc_any S w1 HZ.out).mono ?_
  rintro e w2 ⟨rfl,rfl⟩
  rw[←HQ.out]
  go_wp2_with fail
  go_ret
  exact⟨by rw[HV.out];rfl,CE.out⟩
noncomputable def intH(y:Val):Val:=.mk 3 (hashV y) ByteArray.empty [] []
noncomputable def intC(y:Val):VC:=⟨3,hashV y,ByteArray.empty,none,0,0,none,0,0⟩
theorem rv_int{F:Nat→Prop}{w:World}(y:Val):RV F w (intC y) (intH y):=
 RVs.shut ⟨rfl,rfl,rfl,by show 0≤reach;decide,rfl,qL,by show 0*80≤reach;decide,fun h=>absurd h (by show ¬(0<0);omega),rfl,qL,by show 0*96≤reach;decide,fun h=>absurd h (by show ¬(0<0);omega)⟩
noncomputable def hashes(ha:Bool)(ys:List Val):List Val:=if ha then ys.map intH else ys
noncomputable def encR(ks:List Od)(ha:Bool)(x:Val):ByteArray×Int:=match valsR ks x with
 | none=>(ByteArray.empty,8)
 | some ys=>keyR (hashes ha ys)
theorem encR_none{ks:List Od}{ha:Bool}{x:Val}(h:valsR ks x=none):encR ks ha x=(ByteArray.empty,8):=by rw[encR,h]
theorem encR_some{ks:List Od}{ha:Bool}{x:Val}{ys:List Val}(h:valsR ks x=some ys):encR ks ha x=keyR (hashes ha ys):=by rw[encR,h]
theorem hashes_yes(ys:List Val)(y:Val):hashes true (ys++[y])=hashes true ys++[intH y]:=by simp[hashes]
theorem hashes_no(ys:List Val):hashes false ys=ys:=rfl
theorem hashes_len(ha:Bool)(ys:List Val):(hashes ha ys).length=ys.length:=by cases ha<;>simp[hashes]
theorem kinfo_bool:(Tryz.prog.info? 4).map (fun i=>(i.zero,i.size,i.bytes))=some (some (.bool false),1,1):=by kernel_rfl
theorem sx_made(w:World)(n:Nat):SR 1 recX (w.alloc (.cells (madeCells #[.bool false] n) 4)) (some ⟨w.heap.size,0,none⟩) n n (List.replicate n false):=by
 refine⟨by simp,qL,fun _=>⟨w.heap.size,0,rfl,by simp,fun i a hi j v hj=>?_⟩⟩
 cases j with
 | zero=>
  rw[Blk.cell (Blk.new _ _ _)]
  rw[List.getElem?_replicate] at hi
  split at hi
  ·rename_i hl
   cases hi
   simp[recX] at hj
   subst hj
   simp[madeCells,hl,Nat.mod_one]
  ·cases hi
 | succ j=>simp[recX] at hj
theorem senc_any(ks:List Od)(ha:Bool)(A:Option Addr)(n cc:Nat)(x:Val)(c:VC)(w:World)(hT:Tabs w)(hk:KS w A n cc ks)(hx:RW w c x)(h8:ks.length≤8):
 Calls Tryz.prog 12 #[.agg #[.slice A n cc,.bool ha],c.val] w fun e w'=>e=.returned (.tuple #[.string (encR ks ha x).1,.int .i64 (encR ks ha x).2])∧Below w.heap.size w w':=by
 obtain⟨i0,hi0,hy0,hy1,hy2⟩:=info_parts info_value
 have HT:=qD hT
 have HN:=qD hk.ln
 have HX:=qD hx
 have HK:=qD hk
 have HKX:Hid (c.k=x.k):=hx.open.k
 have hn8:n≤8:=by have:=HN.out;omega
 have I0:Hid (VlI w #[.slice A n cc,.bool ha] c (.slice none 0 0) [] ((w.alloc (.cells #[.slice A n cc,.bool ha] 24)).alloc (.cells c.arr 29))):=VlI.start
 clear hk hx hT
 go_enter Tryz.func12,Tryz.ntmps12
 go_upto_region 1 with fail
 change Code.wp _ _ _ _ ((w.alloc (.cells #[.slice A n cc,.bool ha] 24)).alloc (.cells c.arr 29))
 generalize ((w.alloc (.cells #[.slice A n cc,.bool ha] 24)).alloc (.cells c.arr 29))=wa at*
 obtain⟨a0,a1,a2,a3,a4⟩:=VAt.of_blk I0.out.b1
 simp only[Nat.zero_add] at a0 a1 a2 a3 a4
 by_cases h5:c.k=5
 rotate_left
 ·have h5b:(c.k != 5)=true:=by simp[h5]
  have HV:Hid (encR ks ha x=(ByteArray.empty,8)):=encR_none (valsR_kind (by rw[←HKX.out];exact h5))
  clear h5
  go_wp2_with fail
  go_ret2
  exact⟨by rw[HV.out];rfl,I0.out.vs.bel⟩
 have h5b:(c.k != 5)=false:=by simp[h5]
 have HX5:Hid (x.k=5):=by unfold Hid;rw[←HKX.out];exact h5
 clear h5
 have hva:=qD (valid_any x c wa (HT.out.step I0.out.vs.bel) (HX.out.step I0.out.vs.bel))
 cases hv:validV x
 ·have HV:Hid (encR ks ha x=(ByteArray.empty,8)):=encR_none (valsR_bad hv)
  rw[hv] at hva
  clear hv
  go_wp2_with fail
  refine hva.out.mono ?_
  rintro e w1 ⟨rfl,hb⟩
  have I1:=qD (I0.out.step hb)
  clear hva hb a0 a1 a2 a3 a4
  go_wp2_with fail
  go_ret2
  exact⟨by rw[HV.out];rfl,I1.out.vs.bel⟩
 have HVX:Hid (valsR ks x=valsAt x ks):=valsR_yes HX5.out hv
 rw[hv] at hva
 clear hv
 go_wp2_with fail
 refine hva.out.mono ?_
 rintro e w1 ⟨rfl,hb⟩
 have I1:=qD (I0.out.step hb)
 clear hva hb a0 a1 a2 a3 a4 I0
 have k0:=I1.out.b0.cell 0
 simp at k0
 go_upto_region 5 with fail
 clear k0
 go_loopw [6,8,9,10,22] (fun u6 _ _ _ u22 wr=>∃(i:Nat) (ys:List Val) (ps:List PV),i≤n∧ys.length=i∧ps.map Prod.snd=hashes ha ys∧u22=.int .i64 i∧valsAt x ks=(valsAt x (ks.drop i)).map (ys++·)∧VlI w #[.slice A n cc,.bool ha] c u6 ps wr) (fun _ _ _ _ u22 _=>n-(intOf u22).toNat)
 case atStart=>exact⟨0,[],[],Nat.zero_le _,rfl,by cases ha<;>rfl,rfl,by simp,I1.out⟩
 case round=>
  obtain⟨i,ys,ps,hi,hyl,hps,rfl,hall,J⟩:=hrel
  have HYL:=qD hyl
  have HPS:=qD hps
  have HPL:Hid (ps.length=i):=by have:=congrArg List.length hps;rw[List.length_map,hashes_len,hyl] at this;exact this
  have HA:=qD hall
  have J2:=qD J
  clear hyl hps hall J I1
  by_cases hlt:i<n
  ·obtain⟨os,hos⟩:=HK.out
   obtain⟨b,off,o,hA,hb,ho,e0,e1⟩:=hos.sr.at2 hlt
   subst hA
   obtain⟨q,hq⟩:∃q,ks[i]?=some q:=⟨_,List.getElem?_eq_getElem (by have:=HN.out;omega)⟩
   have HOR:=qD (hos.el i o q ho hq)
   have HVA:=qD (valsAt_at (x:=x) hq)
   have ew:=(J2.out.vs.bel.cell (p:=⟨b,off+i*2,none⟩) hb).trans e0
   have ew1:=(J2.out.vs.bel.cell (p:=⟨b,off+i*2+1,none⟩) hb).trans e1
   have hbw:b<wr.heap.size:=Nat.lt_of_lt_of_le hb J2.out.vs.bel.size
   have i0':(0:Int)≤(i:Int):=by omega
   have i1':(i:Int)<(n:Int):=by omega
   clear hos ho hq e0 e1
   go_upto_region 7 with fail
   change Code.wp _ _ _ _ (wr.alloc (.cells #[.slice o.A o.n o.c,.bool o.d] 54))
   have JB:Hid (Blk (wr.alloc (.cells #[.slice o.A o.n o.c,.bool o.d] 54)) wr.heap.size 54 #[.slice o.A o.n o.c,.bool o.d]):=Blk.new_at rfl
   have J3:=qD (J2.out.step ((Below.refl wr.heap.size wr).alloc (qL) (Obj.cells #[.slice o.A o.n o.c,.bool o.d] 54)))
   generalize wr.alloc (.cells #[.slice o.A o.n o.c,.bool o.d] 54)=wb at*
   generalize wr.heap.size=ga at*
   clear ew ew1 hbw J2
   obtain⟨a0,a1,a2,a3,a4⟩:=VAt.of_blk J3.out.b1
   simp only[Nat.zero_add] at a0 a1 a2 a3 a4
   have o0:=JB.out.cell 0
   simp at o0
   have HAT:=qD (at_any (F:=fun b=>b<w.heap.size) x c o.A o.n o.c q.p wb ((HX.out.lt.mono fun b hb=>hb.2).keep fun b hb=>J3.out.vs.bel.block b hb) (HOR.out.st.step J3.out.vs.bel))
   go_wp2_with fail
   refine HAT.out.mono ?_
   rintro e w2 ⟨c9,rfl,hr,hb⟩
   have J4:=qD (J3.out.step hb)
   have HR9:Hid (∀y,keyAt x q.p=some y→RV (fun b=>Value.ownBlock u6≠some b) w2 c9 y):=fun y hy=>(hr y hy).mono fun b hb=>J3.out.vs.far hb
   clear hr hb HAT a0 a1 a2 a3 a4 o0 JB J3
   cases hg:keyAt x q.p with
   | none=>
    have HV:Hid (encR ks ha x=(ByteArray.empty,8)):=encR_none (by rw[HVX.out,HA.out,HVA.out,hg];rfl)
    have J5:=qD (J4.out.step ((Below.refl w2.heap.size w2).alloc (qL) (Obj.cells c9.arr 29)))
    clear hg
    go_wp2_with fail
    go_ret2
    exact⟨by rw[HV.out];rfl,J5.out.vs.bel⟩
   | some y=>
    have HRY:=qD (HR9.out y hg)
    have HV:Hid (valsAt x ks=(valsAt x (ks.drop (i+1))).map ((ys++[y])++·)):=by
     unfold Hid
     rw[HA.out,HVA.out,hg]
     simp[Option.map_map,Function.comp_def]
    clear hg HR9
    have hlo2:w.heap.size≤w2.heap.size:=J4.out.vs.bel.size
    have NE:Hid (Value.ownBlock u6≠some w2.heap.size):=J4.out.vs.far (.inr (qL))
    have NG:Hid (w.heap.size+2≤w2.heap.size):=J4.out.sz
    go_upto_region 10 with fail
    change Code.wp _ _ _ _ (w2.alloc (.cells c9.arr 29))
    have JB:Hid (Blk (w2.alloc (.cells c9.arr 29)) w2.heap.size 29 c9.arr):=Blk.new_at rfl
    have J5:=qD (J4.out.step ((Below.refl w2.heap.size w2).alloc (qL) (Obj.cells c9.arr 29)))
    have HR5:=qD (HRY.out.alloc (.cells c9.arr 29))
    have BE5:Hid (Below w2.heap.size w2 (w2.alloc (.cells c9.arr 29))):=(Below.refl w2.heap.size w2).alloc (qL) (Obj.cells c9.arr 29)
    generalize w2.alloc (.cells c9.arr 29)=w3 at*
    have BE5:Hid (Below w2.heap.size w2 w3):=BE5
    generalize hG9:w2.heap.size=g9 at*
    have HG9:=qD hG9
    clear hG9 NE NG
    have k1:=J5.out.b0.cell 1
    simp at k1
    have hpi:ps.length≤8:=by have:=HPL.out;omega
    clear HRY
    cases ha
    ·obtain⟨g0,g1,g2,g3,g4⟩:=VAt.of_blk JB.out
     simp only[Nat.zero_add] at g0 g1 g2 g3 g4
     have hlo:w.heap.size≤w3.heap.size:=J5.out.vs.bel.size
     have LK:=qD (J5.out.step ((Below.refl w3.heap.size w3).alloc (qL) (Obj.cells c9.arr 29)))
     have HRZ:=qD (HR5.out.alloc (.cells c9.arr 29))
     go_wp2_with (at_builtin;refine wpList_append_any _ rfl _ _ 26 rfl w.heap.size 29 i0 VC.zero.val 5 80 Tryz.underlying26 hi0 hy0 hy1 hy2 rfl (by decide) u6 ps.length (flat recV ps) rfl LK.out.vs.own _ _ 1 _ (recV (c9,y)) rfl ⟨rfl,fun _=>⟨_,rfl,Nat.lt_succ_self _,news_at _ _ _⟩⟩ (recV_one _) (by unfold maxLen;omega) (by omega) (alloc_le hlo _) ?_)
     intro v' w4 hown hgr hat
     have HI:=qD (LK.out.add (p:=(c9,y)) HRZ.out rfl hown hgr (by rw[size_alloc];exact hat))
     clear hown hgr hat LK HRZ g0 g1 g2 g3 g4 HR5 JB J5 k1
     go_wp2_with fail
     go_roundw
     case rel=>exact⟨i+1,ys++[y],ps++[(c9,y)],hlt,by rw[List.length_append,HYL.out];rfl,by rw[List.map_append,HPS.out];rfl,by go_num,by rw[HV.out],HI.out⟩
     case measure=>simp[intOf];omega
    ·obtain⟨g0,g1,g2,g3,g4⟩:=VAt.of_blk JB.out
     simp only[Nat.zero_add] at g0 g1 g2 g3 g4
     have HHA:=qD (hash_any y c9 w3 (HT.out.step J5.out.vs.bel) (HR5.out.mono fun _ _=>trivial))
     go_wp2_with fail
     refine HHA.out.mono ?_
     rintro e w4 ⟨rfl,hb⟩
     have J6:=qD (J5.out.step hb)
     have hb4:=qD hb
     have JB2:=qD (JB.out.step hb)
     clear g0 g1 g2 g3 g4 hb HHA HR5 JB J5 k1
     obtain⟨g0,g1,g2,g3,g4⟩:=VAt.of_blk JB2.out
     simp only[Nat.zero_add] at g0 g1 g2 g3 g4
     have gz:=JB2.out.frozen
     obtain⟨hh,hhe⟩:∃h,hashV y=h:=⟨_,rfl⟩
     rw[hhe]
     have HHE:=qD hhe
     clear hhe
     go_upto_region 12 with fail
     have BE6:Hid (Below w2.heap.size w2 (setV w4 g9 0 ⟨3,hh,ByteArray.empty,none,0,0,none,0,0⟩)):=by
      have h5:=BE5.out
      rw[←HG9.out] at h5
      exact below_setV (h5.step' hb4.out) (by rw[HG9.out];exact qL) 0 _
     have J7:=qD (J4.out.step BE6.out)
     have JB3:=qD (JB2.out.putV ⟨3,hh,ByteArray.empty,none,0,0,none,0,0⟩)
     change Code.wp _ _ _ _ (setV w4 g9 0 ⟨3,hh,ByteArray.empty,none,0,0,none,0,0⟩)
     generalize setV w4 g9 0 ⟨3,hh,ByteArray.empty,none,0,0,none,0,0⟩=w5 at*
     clear g0 g1 g2 g3 g4 gz BE6 BE5 J6 JB2 hb4 J4
     obtain⟨g0,g1,g2,g3,g4⟩:=VAt.of_blk JB3.out
     simp only[Nat.zero_add] at g0 g1 g2 g3 g4
     have hlo:w.heap.size≤w5.heap.size:=J7.out.vs.bel.size
     have LK:=qD (J7.out.step ((Below.refl w5.heap.size w5).alloc (qL) (Obj.cells (VC.arr ⟨3,hh,ByteArray.empty,none,0,0,none,0,0⟩) 29)))
     go_wp2_with (at_builtin;refine wpList_append_any _ rfl _ _ 26 rfl w.heap.size 29 i0 VC.zero.val 5 80 Tryz.underlying26 hi0 hy0 hy1 hy2 rfl (by decide) u6 ps.length (flat recV ps) rfl LK.out.vs.own _ _ 1 _ (recV (⟨3,hh,ByteArray.empty,none,0,0,none,0,0⟩,intH y)) rfl ⟨rfl,fun _=>⟨_,rfl,Nat.lt_succ_self _,news_at _ _ _⟩⟩ (recV_one _) (by unfold maxLen;omega) (by omega) (alloc_le hlo _) ?_)
     intro v' w6 hown hgr hat
     have HI:=qD (LK.out.add (p:=(⟨3,hh,ByteArray.empty,none,0,0,none,0,0⟩,intH y)) (by rw[←HHE.out];exact rv_int y) rfl hown hgr (by rw[size_alloc];exact hat))
     clear hown hgr hat LK g0 g1 g2 g3 g4 JB3 J7
     go_wp2_with fail
     go_roundw
     case rel=>exact⟨i+1,ys++[y],ps++[(⟨3,hh,ByteArray.empty,none,0,0,none,0,0⟩,intH y)],hlt,by rw[List.length_append,HYL.out];rfl,by rw[List.map_append,HPS.out,hashes_yes];rfl,by go_num,by rw[HV.out],HI.out⟩
     case measure=>simp[intOf];omega
  ·obtain rfl:i=n:=by omega
   have HV:Hid (encR ks ha x=keyR (ps.map Prod.snd)):=by
    rw[HPS.out]
    refine encR_some ?_
    rw[HVX.out,HA.out,List.drop_of_length_le (by have:=HN.out;omega),valsAt]
    simp
   obtain⟨A1,c1,hu6,hsl⟩:=J2.out.vs.sl (by have:=HPL.out;omega)
   rw[HPL.out] at hu6 hsl
   have HSL:=qD hsl
   subst hu6
   clear hsl
   go_upto_region 14 with fail
   obtain⟨j0,hj0,hz0,hz1,hz2⟩:=info_parts kinfo_bool
   have hmk:=run_make_rowN (P:=Tryz.prog) 80 4 j0 (.bool false) Tryz.underlying80 hj0 hz0 i (by rw[hz2];omega) (by omega)
   rw[hz1,Nat.mul_one] at hmk
   have LK:=qD (J2.out.step ((Below.refl wr.heap.size wr).alloc (qL) (.cells (madeCells #[.bool false] i) 4)))
   have hec:=encode_any ps A1 (some ⟨wr.heap.size,0,none⟩) i c1 i (wr.alloc (.cells (madeCells #[.bool false] i) 4)) (HT.out.step LK.out.vs.bel) (HSL.out.step ((Below.refl wr.heap.size wr).alloc (qL) _)) (sx_made wr i) (by omega)
   rw[←HV.out] at hec
   have HEC:=qD hec
   obtain⟨⟨K1,K2⟩,hK⟩:∃K,encR ks ha x=K:=⟨_,rfl⟩
   rw[hK] at HEC
   have HKK:=qD hK
   clear hK HV hec
   go_wp2_with fail
   refine HEC.out.mono ?_
   rintro e w5 ⟨rfl,hb⟩
   have CE:=qD (LK.out.vs.bel.step' hb)
   clear hb HEC LK J2 HSL hmk
   go_wp2_with fail
   go_ret2
   exact⟨by rw[HKK.out];rfl,CE.out⟩
theorem str1(z:Int)(w:World)(h:Tryz.prog.underlying 5=some (.int .u8)):(convert 108 9 (.slice (some ⟨w.heap.size,0,none⟩) 1 1)).run Tryz.prog (w.alloc (.cells #[.int .u8 z] 5))=.ok (.string (strOfNums [z])) (w.alloc (.cells #[.int .u8 z] 5)):=by
 refine run_convert_bytes_arg (P:=Tryz.prog) _ 108 5 Tryz.underlying108 h w.heap.size 0 1 1 [z] rfl (fun i hi=>?_) 9 Tryz.underlying9
 obtain rfl:i=0:=by omega
 exact(Blk.new w 5 #[.int .u8 z]).cell 0
theorem shr64_nat'(a s:Nat):(a:Int)/2^s=((a/2^s:Nat):Int):=by push_cast;rfl
theorem u64_xor'(n:Int):bits .xor .u64 (IntKind.u64.wrap n) 9223372036854775808=((U64 n:Nat):Int):=by
 rw[IntKind.wrap_u64]
 have ha:(n%18446744073709551616).toNat<18446744073709551616:=by omega
 have e1:(BitVec.ofInt 64 (n%18446744073709551616)).toNat=(n%18446744073709551616).toNat:=by
  rw[BitVec.toNat_ofInt]
  omega
 have e2:(BitVec.ofInt 64 (9223372036854775808:Int)).toNat=9223372036854775808:=by decide
 show IntKind.u64.wrap ((BitVec.ofInt 64 (n%18446744073709551616) ^^^ BitVec.ofInt 64 (9223372036854775808:Int)).toNat:Int)=_
 rw[BitVec.toNat_xor,e1,e2,xor_top _ ha,IntKind.wrap_u64]
 unfold U64
 omega
theorem num8_mod'(n:Int)(s:Nat):((U64 n/2^s:Nat):Int)%256=num8 n s:=by unfold num8;omega
theorem rnumber_any(n:Int)(w:World):
 Calls Tryz.prog 156 #[.int .i64 n] w fun e w'=>e=.returned (.string (strOfNums (nums n)))∧Below w.heap.size w w':=by
 obtain⟨U,hU⟩:∃U,U64 n=U:=⟨_,rfl⟩
 have hux:=u64_xor' n
 rw[hU] at hux
 have hub:U<18446744073709551616:=by rw[←hU];unfold U64;omega
 have HU:=qD hU
 clear hU
 go_enter Tryz.func156,Tryz.ntmps156
 go_upto_region 4 with fail
 clear hux
 go_loopw [4,5] (fun u4 u5 wr=>∃i:Nat,i≤8∧u5=.int .i64 i∧u4=.string (strOfNums (numsTo n i))∧Below w.heap.size w wr) (fun _ u5 _=>9-(intOf u5).toNat)
 case atStart=>exact⟨0,Nat.zero_le _,rfl,rfl,Below.refl _ _⟩
 case round=>
  obtain⟨i,hi,rfl,rfl,hb⟩:=hrel
  have HB:=qD hb
  have i0:(0:Int)≤(i:Int):=by omega
  by_cases hlt:i<8
  ·obtain⟨s,hs⟩:∃s:Nat,s=56-8*i:=⟨_,rfl⟩
   have hs2:(56-8*(i:Int))=(s:Int):=by omega
   have s0:(0:Int)≤(s:Int):=by omega
   have s1:(s:Int)≤56:=by omega
   have hq:=shr64_nat' U s
   obtain⟨q,hqe⟩:∃q,q=U/2^s:=⟨_,rfl⟩
   rw[←hqe] at hq
   have hz:(q:Int)%256=num8 n s:=by rw[hqe,←HU.out];exact num8_mod' n s
   obtain⟨z,hze⟩:∃z,num8 n s=z:=⟨_,rfl⟩
   rw[hze] at hz
   have HS:=qD hs
   have HZE:=qD hze
   have hcv:=str1 z wr Tryz.underlying5
   obtain⟨S,hS⟩:∃S,S=strOfNums (numsTo n i):=⟨_,rfl⟩
   obtain⟨Z,hZ⟩:∃Z,Z=strOfNums [z]:=⟨_,rfl⟩
   rw[←hZ] at hcv
   rw[←hS]
   have hz1:S.size+Z.size≤9223372036854775807:=by rw[hS,hZ,strOfNums_size,strOfNums_size,numsTo_len];simp;omega
   have hz2:¬(9223372036854775807<S.size+Z.size):=by omega
   have HSS:=qD hS
   have HZZ:=qD hZ
   clear hs hqe hze hS hZ hb
   go_wp2_with fail
   go_roundw
   case rel=>exact⟨i+1,by omega,by go_num,by rw[numsTo_succ,strOfNums_append,←HS.out,HZE.out,←HSS.out,←HZZ.out],HB.out.alloc HB.out.size _⟩
   case measure=>simp[intOf];omega
  ·obtain rfl:i=8:=by omega
   clear hb
   go_wp2_with fail
   go_ret
   exact⟨rfl,HB.out⟩
theorem extract_one(t:ByteArray)(i:Nat)(h:i<t.size):t.extract i (i+1)=strOfNums [(t[i].toNat:Int)]:=by
 apply ByteArray.ext
 apply Array.ext'
 have e:t.data.toList[i]?=some t[i]:=by rw[List.getElem?_eq_getElem (by simpa using h)];rfl
 simp only[ByteArray.data_extract,Array.toList_extract,strOfNums,List.map_cons,List.map_nil,List.toList_toArray]
 rw[List.extract_eq_take_drop,List.drop_eq_getElem?_toList_append,e]
 simp
theorem rtext_any(t:ByteArray)(w:World)(ht:t.size≤4096):
 Calls Tryz.prog 157 #[.string t] w fun e w'=>e=.returned (.string (strOfNums (textN t.data.toList++[0,0])))∧Below w.heap.size w w':=by
 go_enter Tryz.func157,Tryz.ntmps157
 go_upto_region 3 with fail
 go_loopw [3,4] (fun u3 u4 wr=>∃i:Nat,i≤t.size∧u4=.int .i64 i∧u3=.string (strOfNums (textN (t.data.toList.take i)))∧wr=w) (fun _ u4 _=>t.size-(intOf u4).toNat)
 case atStart=>exact⟨0,Nat.zero_le _,rfl,rfl,rfl⟩
 case round=>
  obtain⟨i,hi,rfl,rfl,rfl⟩:=hrel
  have hlen:(textN (t.data.toList.take i)).length≤8192:=by
   have h2:=textN_len (t.data.toList.take i)
   have h3:(t.data.toList.take i).length≤i:=List.length_take_le _ _
   omega
  obtain⟨S,hS⟩:∃S,S=strOfNums (textN (t.data.toList.take i)):=⟨_,rfl⟩
  rw[←hS]
  have hSz:S.size≤8192:=by rw[hS,strOfNums_size];exact hlen
  have HSS:=qD hS
  clear hS hlen
  have i0:(0:Int)≤(i:Int):=by omega
  have tz:(t.size:Int)≤4096:=by omega
  by_cases hlt:i<t.size
  ·have hx:=t[i].toNat_lt
   have i1:(i:Int)<(t.size:Int):=by omega
   have hex:=extract_one t i hlt
   obtain⟨Z,hZ⟩:∃Z,Z=strOfNums [(t[i].toNat:Int)]:=⟨_,rfl⟩
   rw[←hZ] at hex
   have hZs:Z.size=1:=by rw[hZ,strOfNums_size];rfl
   have hz2:¬(9223372036854775807<S.size+Z.size):=by omega
   have hz3:¬(9223372036854775807<S.size+Z.size+1):=by omega
   have HZ:=qD hZ
   clear hZ hZs
   have HSN:=qD (textN_snoc (bytes_at t i hlt))
   cases hd:((t[i].toNat:Int)==0)
   ·have HB:Hid (byteN t[i]=[(t[i].toNat:Int)]):=by
     have hne:¬t[i]=0:=fun e=>by rw[e] at hd;exact absurd hd (by decide)
     unfold Hid byteN
     rw[if_neg hne]
    have HSB:Hid (textN (t.data.toList.take (i+1))=textN (t.data.toList.take i)++[(t[i].toNat:Int)]):=HSN.out.trans (congrArg (fun z=>textN (t.data.toList.take i)++z) HB.out)
    go_wp2_with fail
    go_roundw
    case rel=>exact⟨i+1,by omega,by go_num,by rw[HSB.out,strOfNums_append,←HSS.out,←HZ.out],trivial⟩
    case measure=>simp[intOf];omega
   ·have HB:Hid (byteN t[i]=[(t[i].toNat:Int),255]):=by
     have e:t[i]=0:=by
      apply UInt8.toNat_inj.1
      have:(t[i].toNat:Int)=0:=by simpa using hd
      show t[i].toNat=0
      omega
     rw[e]
     rfl
    have HSB:Hid (textN (t.data.toList.take (i+1))=textN (t.data.toList.take i)++[(t[i].toNat:Int)]++[255]):=HSN.out.trans ((congrArg (fun z=>textN (t.data.toList.take i)++z) HB.out).trans (by simp))
    go_wp2_with fail
    go_roundw
    case rel=>exact⟨i+1,by omega,by go_num,by rw[HSB.out,strOfNums_append,strOfNums_append,←HSS.out,←HZ.out];rfl,trivial⟩
    case measure=>simp[intOf];omega
  ·obtain rfl:i=t.size:=by omega
   have HTK:Hid (t.data.toList.take t.size=t.data.toList):=List.take_of_length_le (by rw[dsize];exact qL)
   have hz2:¬(9223372036854775807<S.size+2):=by omega
   go_wp2_with fail
   go_ret
   exact⟨by rw[strOfNums_append,←HTK.out,←HSS.out];rfl,Below.refl _ _⟩
structure OnI(w:World)(c:VC)(wr:World):Prop where
 b0:Blk wr w.heap.size 29 c.arr
 bel:Below w.heap.size w wr
theorem OnI.step{w wr w':World}{c:VC}(h:OnI w c wr)(hb:Below wr.heap.size wr w'):OnI w c w':=⟨h.b0.step hb,h.bel.step' hb⟩
theorem rone_any(x:Val):∀(c:VC) (w:World),RW w c x→Enc1 x→(encV x).length≤100000000→
 Calls Tryz.prog 125 #[c.val] w fun e w'=>e=.returned (.string (strOfNums (encV x)))∧Below w.heap.size w w':=by
 induction x using Val.ind with
 | h k n t l d ihl ihd=>
  intro c w h he htot
  obtain⟨ck,cn,ct,LA,ln,lc,DA,dn,dc⟩:=c
  have ho:=h.open
  obtain rfl:ck=k:=ho.k
  obtain rfl:cn=n:=ho.n
  obtain rfl:ct=t:=ho.t
  have hkind:=he.kind
  simp only[Val.k] at hkind
  have htx:=he.text
  simp only[Val.t] at htx
  obtain⟨T,hT⟩:∃T,encV (.mk ck cn ct l d)=ck::T:=⟨_,encV_eq _⟩
  rw[hT] at htot ⊢
  rw[List.length_cons] at htot
  have HE:=qD hT
  have HO:=qD ho
  have HEN:=qD he
  have HTO:=qD htot
  clear h he ho hT
  have I0:Hid (OnI w ⟨ck,cn,ct,LA,ln,lc,DA,dn,dc⟩ (w.alloc (.cells #[.int .i64 ck,.int .i64 cn,.string ct,.slice LA ln lc,.slice DA dn dc] 29))):=⟨Blk.new_at rfl,(Below.refl _ _).alloc (qL) _⟩
  clear htot
  go_enter Tryz.func125,Tryz.ntmps125
  go_upto_region 1 with fail
  change (Code.region 1 _ _).wp _ _ _ (w.alloc (.cells #[.int .i64 ck,.int .i64 cn,.string ct,.slice LA ln lc,.slice DA dn dc] 29))
  obtain⟨w0,hw0⟩:∃w0,w.alloc (.cells #[.int .i64 ck,.int .i64 cn,.string ct,.slice LA ln lc,.slice DA dn dc] 29)=w0:=⟨_,rfl⟩
  rw[hw0] at I0 ⊢
  clear hw0
  have hk8:ck%256=ck:=by omega
  obtain⟨b0,b1,b2,b3,b4⟩:=VAt.of_blk I0.out.b0
  simp only[Nat.zero_add] at b0 b1 b2 b3 b4
  have hcv:=str1 ck w0 Tryz.underlying5
  obtain⟨K,hK⟩:∃K,K=strOfNums [ck]:=⟨_,rfl⟩
  rw[←hK] at hcv
  have hKs:K.size=1:=by rw[hK,strOfNums_size];rfl
  have HK:=qD hK
  clear hK
  go_upto_region 2 with fail
  have I1:=qD (I0.out.step ((Below.refl w0.heap.size w0).alloc (qL) (Obj.cells #[.int .u8 ck] 5)))
  generalize w0.alloc (.cells #[.int .u8 ck] 5)=w1 at*
  clear b0 b1 b2 b3 b4 hcv I0
  obtain⟨b0,b1,b2,b3,b4⟩:=VAt.of_blk I1.out.b0
  simp only[Nat.zero_add] at b0 b1 b2 b3 b4
  by_cases k3:ck=3∨ck=9∨ck=10
  ·have hT:T=nums cn:=by have:=HE.out.symm.trans (encT_num k3);simpa using this
   have HEQ:Hid (strOfNums (ck::T)=K++strOfNums (nums cn)):=by unfold Hid;rw[hT,HK.out,←strOfNums_append];rfl
   have hz2:¬(9223372036854775807<K.size+(strOfNums (nums cn)).size):=by rw[strOfNums_size,nums,numsTo_len];omega
   clear hT HTO HE hKs
   rcases k3 with rfl|rfl|rfl
   all_goals
    go_upto_region 6 with fail
    go_wp2_with fail
    refine(rnumber_any cn _).mono ?_
    rintro e w2 ⟨rfl,hb2⟩
    have I2:=qD (I1.out.step hb2)
    clear b0 b1 b2 b3 b4 I1 hb2
    go_wp2_with fail
    go_ret
    exact⟨by rw[HEQ.out];rfl,I2.out.bel⟩
  by_cases k4:ck=4∨ck=7∨ck=8
  ·have hT:T=textN ct.data.toList++[0,0]:=by have:=HE.out.symm.trans (encT_text k4);simpa using this
   have HEQ:Hid (strOfNums (ck::T)=K++strOfNums (textN ct.data.toList++[0,0])):=by unfold Hid;rw[hT,HK.out,←strOfNums_append];rfl
   have hz2:¬(9223372036854775807<K.size+(strOfNums (textN ct.data.toList++[0,0])).size):=by
    have h2:=textN_len ct.data.toList
    rw[dsize] at h2
    rw[strOfNums_size,List.length_append]
    simp only[List.length_cons,List.length_nil]
    omega
   have HTX:=qD htx
   clear hT HTO HE hKs k3 htx
   rcases k4 with rfl|rfl|rfl
   all_goals
    go_upto_region 10 with fail
    go_wp2_with fail
    refine(rtext_any ct _ HTX.out).mono ?_
    rintro e w2 ⟨rfl,hb2⟩
    have I2:=qD (I1.out.step hb2)
    clear b0 b1 b2 b3 b4 I1 hb2
    go_wp2_with fail
    go_ret
    exact⟨by rw[HEQ.out];rfl,I2.out.bel⟩
  by_cases k6:ck=6
  ·subst k6
   have hT:T=encL l++[0]:=by have:=HE.out.symm.trans (encT_list (k:=6) rfl);simpa using this
   have hnb:(encL l).length+1≤100000000:=by have:=HTO.out;rw[hT,List.length_append] at this;simp only[List.length_cons,List.length_nil] at this;omega
   have HEQ:Hid (strOfNums (6::T)=K++strOfNums (encL l)++strOfNums [0]):=by unfold Hid;rw[hT,HK.out,←strOfNums_append,←strOfNums_append];simp
   have HNB:=qD hnb
   clear hT HTO HE k3 k4 hnb
   obtain⟨ps,hps,hsl⟩:=(RVs.shut HO.out).sl
   simp only[Val.l] at hps
   have SLh:=qD hsl
   have HPS:=qD hps
   have HLL:Hid (ln=ps.length):=hsl.sr.ln
   have hlz:(ln:Int)≤1759218604441:=by have:=hsl.sz;unfold reach at this;simp only at this;omega
   clear hps hsl
   go_upto_region 13 with fail
   clear b0 b1 b2 b3 b4
   go_loopw [3,4] (fun u3 u4 wr=>∃i:Nat,i≤ln∧u4=.int .i64 i∧u3=.string (K++strOfNums (encL (l.take i)))∧OnI w ⟨6,cn,ct,LA,ln,lc,DA,dn,dc⟩ wr) (fun _ u4 _=>ln-(intOf u4).toNat)
   case atStart=>exact⟨0,Nat.zero_le _,rfl,by simp[encL,strOfNums_nil],I1.out⟩
   case round=>
    obtain⟨i,hi,rfl,rfl,J⟩:=hrel
    have J2:=qD J
    clear J
    obtain⟨b0,b1,b2,b3,b4⟩:=VAt.of_blk J2.out.b0
    simp only[Nat.zero_add] at b0 b1 b2 b3 b4
    obtain⟨S,hS⟩:∃S,S=K++strOfNums (encL (l.take i)):=⟨_,rfl⟩
    rw[←hS]
    have hSz:S.size≤1+(encL l).length:=by
     have h2:=encL_take_le l i
     rw[hS,ByteArray.size_append,strOfNums_size]
     omega
    have hSb:S.size≤100000000:=by have:=HNB.out;omega
    have HS:=qD hS
    clear hS hSz
    by_cases hlt:i<ln
    ·obtain⟨p,hp⟩:∃p,ps[i]?=some p:=⟨_,List.getElem?_eq_getElem (by have:=HLL.out;omega)⟩
     obtain⟨b,off,hLA,hbF,hat,hrv⟩:=SLh.out.vat hp
     subst hLA
     have hpl:l[i]?=some p.2:=by rw[←HPS.out,List.getElem?_map,hp];rfl
     have hmem:=List.mem_of_getElem? hpl
     have hSN:=encL_snoc hpl
     have hbd:(encV p.2).length≤100000000:=by
      have h2:=encL_take_le l (i+1)
      rw[hSN,List.length_append,List.length_cons] at h2
      have h6:=HNB.out
      omega
     obtain⟨q0,q1,q2,q3,q4⟩:=hat.step J2.out.bel
     obtain⟨Y,hY⟩:∃Y,Y=strOfNums (encV p.2):=⟨_,rfl⟩
     have hYs:Y.size≤100000000:=by rw[hY,strOfNums_size];exact hbd
     have hcal:=ihl p.2 hmem p.1 wr (hrv.step J2.out.bel) (HEN.out.list p.2 hmem) hbd
     rw[←hY] at hcal
     have HCA:=qD hcal
     have HEQS:Hid (K++strOfNums (encL (l.take (i+1)))=S++(⟨#[1]⟩++Y)):=by
      have e:strOfNums (1::encV p.2)=⟨#[1]⟩++strOfNums (encV p.2):=(strOfNums_append [1] (encV p.2))
      unfold Hid
      rw[hSN,strOfNums_append,HS.out,hY,ByteArray.append_assoc,e]
     have hz1:¬(9223372036854775807<1+Y.size):=by omega
     have hz2:¬(9223372036854775807<S.size+(1+Y.size)):=by omega
     have i0':(0:Int)≤(i:Int):=by omega
     have i1':(i:Int)<(ln:Int):=by omega
     clear hp hrv hpl hmem hSN hbd hat hcal hY hYs
     go_upto_region 15 with fail
     go_wp2_with fail
     refine HCA.out.mono ?_
     rintro e w2 ⟨rfl,hb2⟩
     have I2:=qD (J2.out.step hb2)
     clear b0 b1 b2 b3 b4 q0 q1 q2 q3 q4 HCA J2 hb2
     go_wp2_with fail
     go_roundw
     case rel=>exact⟨i+1,hlt,by go_num,by rw[HEQS.out],I2.out⟩
     case measure=>simp[intOf];omega
    ·obtain rfl:i=ln:=by omega
     have HTK:Hid (l.take i=l):=List.take_of_length_le (by have h1:=HLL.out;have h2:=congrArg List.length HPS.out;simp at h2;omega)
     have hz1:¬(9223372036854775807<S.size+1):=by omega
     go_wp2_with fail
     go_ret
     exact⟨by rw[HEQ.out,←HTK.out,←HS.out];rfl,J2.out.bel⟩
  by_cases k5:ck=5
  ·subst k5
   have hT:T=encD d++[0]:=by have:=HE.out.symm.trans (encT_doc (k:=5) rfl);simpa using this
   have hnb:(encD d).length+1≤100000000:=by have:=HTO.out;rw[hT,List.length_append] at this;simp only[List.length_cons,List.length_nil] at this;omega
   have HEQ:Hid (strOfNums (5::T)=K++strOfNums (encD d)++strOfNums [0]):=by unfold Hid;rw[hT,HK.out,←strOfNums_append,←strOfNums_append];simp
   have HNB:=qD hnb
   clear hT HTO HE k3 k4 k6 hnb
   obtain⟨ps,hps,hsd⟩:=(RVs.shut HO.out).sd
   simp only[Val.d] at hps
   have SDh:=qD hsd
   have HPS:=qD hps
   have HLL:Hid (dn=ps.length):=hsd.sr.ln
   have hlz:(dn:Int)≤1466015503701:=by have:=hsd.sz;unfold reach at this;simp only at this;omega
   clear hps hsd
   go_upto_region 19 with fail
   clear b0 b1 b2 b3 b4
   go_loopw [3,5] (fun u3 u5 wr=>∃i:Nat,i≤dn∧u5=.int .i64 i∧u3=.string (K++strOfNums (encD (d.take i)))∧OnI w ⟨5,cn,ct,LA,ln,lc,DA,dn,dc⟩ wr) (fun _ u5 _=>dn-(intOf u5).toNat)
   case atStart=>exact⟨0,Nat.zero_le _,rfl,by simp[encD,strOfNums_nil],I1.out⟩
   case round=>
    obtain⟨i,hi,rfl,rfl,J⟩:=hrel
    have J2:=qD J
    clear J
    obtain⟨b0,b1,b2,b3,b4⟩:=VAt.of_blk J2.out.b0
    simp only[Nat.zero_add] at b0 b1 b2 b3 b4
    obtain⟨S,hS⟩:∃S,S=K++strOfNums (encD (d.take i)):=⟨_,rfl⟩
    rw[←hS]
    have hSz:S.size≤1+(encD d).length:=by
     have h2:=encD_take_le d i
     rw[hS,ByteArray.size_append,strOfNums_size]
     omega
    have hSb:S.size≤100000000:=by have:=HNB.out;omega
    have HS:=qD hS
    clear hS hSz
    by_cases hlt:i<dn
    ·obtain⟨p,hp⟩:∃p,ps[i]?=some p:=⟨_,List.getElem?_eq_getElem (by have:=HLL.out;omega)⟩
     obtain⟨b,off,hDA,hbF,hnm,hat,hrv⟩:=SDh.out.vat hp
     subst hDA
     have hpl:d[i]?=some p.2:=by rw[←HPS.out,List.getElem?_map,hp];rfl
     have hmem:=List.mem_of_getElem? hpl
     have hSN:=encD_snoc hpl
     have hbd0:(strN p.2.s).length+(encV p.2.v).length≤100000000:=by
      have h2:=encD_take_le d (i+1)
      rw[hSN,List.length_append,List.length_cons,List.length_append,List.length_cons] at h2
      have h6:=HNB.out
      omega
     rw[strN_len] at hbd0
     have hbd:(encV p.2.v).length≤100000000:=by omega
     have hns:p.2.s.size≤100000000:=by omega
     have q5:=(J2.out.bel.cell (p:=⟨b,off+i*6,none⟩) (World.block_lt_of_cell? w _ hnm)).trans hnm
     obtain⟨q0,q1,q2,q3,q4⟩:=hat.step J2.out.bel
     have R0:∀kk:BW wr,kk.val.cell? ⟨b,off+i*6+1,none⟩=some (.int .i64 p.1.k):=fun kk=>kk.cell q0
     have R1:∀kk:BW wr,kk.val.cell? ⟨b,off+i*6+1+1,none⟩=some (.int .i64 p.1.n):=fun kk=>kk.cell q1
     have R2:∀kk:BW wr,kk.val.cell? ⟨b,off+i*6+1+2,none⟩=some (.string p.1.t):=fun kk=>kk.cell q2
     have R3:∀kk:BW wr,kk.val.cell? ⟨b,off+i*6+1+3,none⟩=some (.slice p.1.LA p.1.ln p.1.lc):=fun kk=>kk.cell q3
     have R4:∀kk:BW wr,kk.val.cell? ⟨b,off+i*6+1+4,none⟩=some (.slice p.1.DA p.1.dn p.1.dc):=fun kk=>kk.cell q4
     have R5:∀kk:BW wr,kk.val.cell? ⟨b,off+i*6,none⟩=some (.string p.2.s):=fun kk=>kk.cell q5
     have R6:∀kk:BW wr,kk.val.cell? ⟨w.heap.size,4,none⟩=some (.slice (some ⟨b,off,none⟩) dn dc):=fun kk=>kk.cell b4
     obtain⟨Y,hY⟩:∃Y,Y=strOfNums (encV p.2.v):=⟨_,rfl⟩
     have hYs:Y.size≤100000000:=by rw[hY,strOfNums_size];exact hbd
     have HCA:Hid (∀kk:BW wr,Calls Tryz.prog 125 #[p.1.val] kk.val fun e w''=>e=.returned (.string Y)∧∃kk:BW wr,w''=kk.val):=fun kk=>by
      rw[hY]
      exact Calls.bw (ihd p.2 hmem p.1 kk.val ((hrv.step J2.out.bel).step kk.below) (HEN.out.doc p.2 hmem).1 hbd)
     have HEQS:Hid (K++strOfNums (encD (d.take (i+1)))=S++(⟨#[1]⟩++p.2.s++⟨#[0]⟩++Y)):=by
      have e:strOfNums (1::(strN p.2.s++0::encV p.2.v))=⟨#[1]⟩++p.2.s++⟨#[0]⟩++strOfNums (encV p.2.v):=by
       have h2:1::(strN p.2.s++0::encV p.2.v)=[1]++strN p.2.s++[0]++encV p.2.v:=by simp
       have h3:strOfNums ([1]++strN p.2.s)=⟨#[1]⟩++p.2.s:=(strOfNums_append [1] (strN p.2.s)).trans (congrArg (fun z=>strOfNums [1]++z) (strOfNums_strN p.2.s))
       have h4:strOfNums ([1]++strN p.2.s++[0])=⟨#[1]⟩++p.2.s++⟨#[0]⟩:=(strOfNums_append _ [0]).trans (congrArg (fun z=>z++strOfNums [0]) h3)
       rw[h2]
       exact(strOfNums_append _ _).trans (congrArg (fun z=>z++strOfNums (encV p.2.v)) h4)
      unfold Hid
      rw[hSN,strOfNums_append,HS.out,hY,ByteArray.append_assoc,e]
     obtain⟨N,hN⟩:∃N,N=p.2.s:=⟨_,rfl⟩
     rw[←hN] at R5 hns HEQS
     have hz1:¬(9223372036854775807<1+N.size):=by omega
     have hz2:¬(9223372036854775807<1+N.size+1):=by omega
     have hz3:¬(9223372036854775807<1+N.size+1+Y.size):=by omega
     have hz4:¬(9223372036854775807<S.size+(1+N.size+1+Y.size)):=by omega
     have i0':(0:Int)≤(i:Int):=by omega
     have i1':(i:Int)<(dn:Int):=by omega
     clear hp hrv hpl hmem hSN hbd hbd0 hat hY hYs hns q0 q1 q2 q3 q4 q5 hnm hN
     go_upto_region 21 with fail
     clear b0 b1 b2 b3 b4
     refine wp_region_bw (by kernel_rfl) (by kernel_rfl) ?_
     repeat(go_big_quiet_step ((with_reducible exact HCA.out _)))
     refine wpQuiet_nil ?_
     rintro _ ⟨kw,rfl⟩
     have I2:=qD (J2.out.step kw.below)
     clear R0 R1 R2 R3 R4 R5 R6 HCA J2
     generalize kw.val=w2 at*
     clear kw
     go_wp2_with fail
     go_roundw
     case rel=>exact⟨i+1,hlt,by go_num,by rw[HEQS.out],I2.out⟩
     case measure=>simp[intOf];omega
    ·obtain rfl:i=dn:=by omega
     have HTK:Hid (d.take i=d):=List.take_of_length_le (by have h1:=HLL.out;have h2:=congrArg List.length HPS.out;simp at h2;omega)
     have hz1:¬(9223372036854775807<S.size+1):=by omega
     go_wp2_with fail
     go_ret
     exact⟨by rw[HEQ.out,←HTK.out,←HS.out];rfl,J2.out.bel⟩
  have hT:T=[]:=by have:=HE.out.symm.trans (encT_none k3 k4 k6 k5);simpa using this
  have HEQ:Hid (strOfNums (ck::T)=K):=by unfold Hid;rw[hT,HK.out]
  have q3:(ck==3)=false:=by simp;omega
  have q9:(ck==9)=false:=by simp;omega
  have q10:(ck==10)=false:=by simp;omega
  have q4:(ck==4)=false:=by simp;omega
  have q7:(ck==7)=false:=by simp;omega
  have q8:(ck==8)=false:=by simp;omega
  have q6:(ck==6)=false:=by simp;omega
  have q5:(ck==5)=false:=by simp;omega
  clear hT HTO HE k3 k4 k6 k5
  go_wp2_with fail
  go_ret
  exact⟨by rw[HEQ.out];rfl,I1.out.bel⟩
theorem keyR_take{l:List Val}{i:Nat}{y:Val}(h:l[i]?=some y):strOfNums (encAll (l.take (i+1)))=strOfNums (encAll (l.take i))++strOfNums (encV y):=by rw[encAll_snoc h,strOfNums_append]
theorem rencode_any(ps:List PV)(A B:Option Addr)(n c bc:Nat)(w:World)(h:SL (fun _=>True) w A n c ps)(hd:SR 1 recX w B n bc (List.replicate n false))(hn:n≤10):
 Calls Tryz.prog 80 #[.slice A n c,.slice B n bc] w fun e w'=>e=.returned (.tuple #[.string (keyR (ps.map Prod.snd)).1,.int .i64 (keyR (ps.map Prod.snd)).2])∧Below w.heap.size w w':=by
 have H:=qD h
 have HD:=qD hd
 have HL:Hid (n=ps.length):=h.sr.ln
 clear h hd
 go_enter Tryz.func80,Tryz.ntmps80
 go_upto_region 5 with fail
 go_loopw [6,7] (fun u6 u7 wr=>∃i:Nat,i≤n∧u7=.int .i64 i∧allowsB ((ps.map Prod.snd).take i)=true∧u6=.string (strOfNums (encAll ((ps.map Prod.snd).take i)))∧Below w.heap.size w wr) (fun _ u7 _=>n-(intOf u7).toNat)
 case atStart=>exact⟨0,Nat.zero_le _,rfl,rfl,rfl,Below.refl _ _⟩
 case round=>
  obtain⟨i,hi,rfl,hal,rfl,hb⟩:=hrel
  have HAL:=qD hal
  have HB:=qD hb
  obtain⟨S,hS⟩:∃S,S=strOfNums (encAll ((ps.map Prod.snd).take i)):=⟨_,rfl⟩
  rw[←hS]
  have hSz:S.size≤85000000:=by
   have h2:=encAll_len hal
   have h3:((ps.map Prod.snd).take i).length≤i:=List.length_take_le _ _
   rw[hS,strOfNums_size]
   omega
  have HS:=qD hS
  clear hal hb hS
  by_cases hlt:i<n
  ·obtain⟨p,hp⟩:∃p,ps[i]?=some p:=⟨_,List.getElem?_eq_getElem (by have:=HL.out;omega)⟩
   obtain⟨b,off,hA,_,hat,hrv⟩:=H.out.vat hp
   subst hA
   have hpl:(ps.map Prod.snd)[i]?=some p.2:=by rw[List.getElem?_map,hp];rfl
   obtain⟨q0,q1,q2,q3,q4⟩:=hat.step HB.out
   have HAT:=qD hat
   have HR:=qD hrv
   have HPL:=qD hpl
   have i0':(0:Int)≤(i:Int):=by omega
   have i1':(i:Int)<(n:Int):=by omega
   clear hp hat hrv hpl
   have HMI:=qD (missing_any p.2 p.1 wr (HR.out.step HB.out))
   go_upto_region 7 with fail
   go_cut [32] (fun s32 wx=>s32=.bool (!allowB p.2)∧Below w.heap.size w wx)
   case first=>
    cases hM:missB p.2
    ·have HA:Hid (allowB p.2=validV p.2):=by unfold Hid allowB;rw[hM];rfl
     rw[hM] at HMI
     clear hM
     go_wp2_with fail
     refine HMI.out.mono ?_
     rintro e w1 ⟨rfl,hb⟩
     have HB1:=qD (HB.out.step' hb)
     clear q0 q1 q2 q3 q4 hb HMI
     obtain⟨q0,q1,q2,q3,q4⟩:=HAT.out.step HB1.out
     go_wp2_with fail
     refine(rvalid_any p.2 p.1 w1 (HR.out.step HB1.out)).mono ?_
     rintro e w2 ⟨rfl,hb⟩
     have HB2:=qD (HB1.out.step' hb)
     clear q0 q1 q2 q3 q4 hb HB1
     go_wp2_with fail
     go_meet
     exact⟨by rw[HA.out],HB2.out⟩
    ·have HA:Hid (allowB p.2=true):=by unfold Hid allowB;rw[hM];rfl
     rw[hM] at HMI
     clear hM
     go_wp2_with fail
     refine HMI.out.mono ?_
     rintro e w1 ⟨rfl,hb⟩
     have HB1:=qD (HB.out.step' hb)
     clear q0 q1 q2 q3 q4 hb HMI
     go_wp2_with fail
     go_meet
     exact⟨by rw[HA.out];rfl,HB1.out⟩
   case rest=>
    obtain⟨rfl,hbc⟩:=hcut
    have HBC:=qD hbc
    clear hbc q0 q1 q2 q3 q4 HMI HB
    cases hA:allowB p.2
    ·have HK:=qD (keyR_no HPL.out hA)
     clear hA
     go_wp2_with fail
     go_ret2
     exact⟨by rw[HK.out];rfl,HBC.out⟩
    ·have HAS:=qD (allows_snoc HPL.out HAL.out hA)
     have HE1:=qD (allow_enc hA)
     have HTA:=qD (keyR_take HPL.out)
     clear hA
     obtain⟨q0,q1,q2,q3,q4⟩:=HAT.out.step HBC.out
     obtain⟨Y,hY⟩:∃Y,Y=strOfNums (encV p.2):=⟨_,rfl⟩
     have hYs:Y.size≤8500000:=by rw[hY,strOfNums_size];exact HE1.out.2
     have hz:¬(9223372036854775807<S.size+Y.size):=by omega
     have hcal:=rone_any p.2 p.1 wc (HR.out.step HBC.out) HE1.out.1 (by have:=HE1.out.2;omega)
     rw[←hY] at hcal
     have HCA:=qD hcal
     have HY:=qD hY
     obtain⟨b',off',hB,hbB,hel⟩:=HD.out.el (by omega)
     have hde:=hel i false (by rw[List.getElem?_replicate,if_pos hlt]) 0 _ rfl
     have hde2:=(HBC.out.cell (p:=⟨b',off'+i*1+0,none⟩) hbB).trans hde
     rw[Nat.mul_one,Nat.add_zero] at hde2
     subst hB
     clear hel hde hcal hY hYs
     go_wp2_with fail
     refine HCA.out.mono ?_
     rintro e w2 ⟨rfl,hb⟩
     have HB2:=qD (HBC.out.step' hb)
     clear q0 q1 q2 q3 q4 hb HCA
     go_wp2_with fail
     go_roundw
     case rel=>exact⟨i+1,hlt,by go_num,HAS.out,by rw[HTA.out,←HS.out,←HY.out],HB2.out⟩
     case measure=>simp[intOf];omega
  ·obtain rfl:i=n:=by omega
   have hTK:(ps.map Prod.snd).take i=ps.map Prod.snd:=List.take_of_length_le (by rw[List.length_map];have:=HL.out;omega)
   have hal:=HAL.out
   rw[hTK] at hal
   have HK:Hid (keyR (ps.map Prod.snd)=(S,0)):=by rw[HS.out,hTK];exact keyR_yes hal
   clear hTK hal
   go_wp2_with fail
   go_ret2
   exact⟨by rw[HK.out];rfl,HB.out⟩
theorem rcode_any(x:Val)(c:VC)(w:World)(h:RW w c x):
 Calls Tryz.prog 30 #[c.val] w fun e w'=>e=.returned (.tuple #[.string (keyR [x]).1,.int .i64 (keyR [x]).2])∧Below w.heap.size w w':=by
 have H:=qD h
 have BE:Hid (Below w.heap.size w (((w.alloc (.cells c.arr 29)).alloc (.cells c.arr 29)).alloc (.cells #[.bool false] 4))):=(((Below.refl _ _).alloc (qL) _).alloc (by simp) _).alloc (by simp;omega) _
 have B1:Hid (Blk (((w.alloc (.cells c.arr 29)).alloc (.cells c.arr 29)).alloc (.cells #[.bool false] 4)) (w.heap.size+1) 29 c.arr):=(Blk.new_at (by simp)).alloc _
 have B2:Hid (Blk (((w.alloc (.cells c.arr 29)).alloc (.cells c.arr 29)).alloc (.cells #[.bool false] 4)) (w.heap.size+2) 4 #[.bool false]):=Blk.new_at (by simp)
 obtain⟨wb,hwb⟩:∃wb,wb=(((w.alloc (.cells c.arr 29)).alloc (.cells c.arr 29)).alloc (.cells #[.bool false] 4)):=⟨_,rfl⟩
 rw[←hwb] at BE B1 B2
 have HC:=qD (rencode_any [(c,x)] (some ⟨w.heap.size+1,0,none⟩) (some ⟨w.heap.size+2,0,none⟩) 1 1 1 wb (sl_one B1.out (H.out.step BE.out)) (sx_one B2.out) (by omega))
 rw[hwb] at HC
 have HWB:=qD hwb
 clear h hwb
 simp only[List.map_cons,List.map_nil] at HC
 obtain⟨K,hK⟩:∃K,keyR [x]=K:=⟨_,rfl⟩
 rw[hK] at HC ⊢
 clear hK
 obtain⟨K1,K2⟩:=K
 go_enter Tryz.func30,Tryz.ntmps30
 go_wp2_with fail
 refine HC.out.mono ?_
 rintro e w1 ⟨rfl,hb⟩
 rw[←HWB.out] at hb
 have CE:=qD (BE.out.step' hb)
 clear hb HC B1 B2
 go_wp2_with fail
 go_ret2
 exact⟨rfl,CE.out⟩
theorem rhash_any(x:Val)(c:VC)(w:World)(h:RW w c x):
 Calls Tryz.prog 31 #[c.val] w fun e w'=>e=.returned (.int .i64 (hashV x))∧Below w.heap.size w w':=by
 have H:=qD h
 have B0:Hid (Blk (w.alloc (.cells c.arr 29)) w.heap.size 29 c.arr):=Blk.new_at rfl
 have BE:Hid (Below w.heap.size w (w.alloc (.cells c.arr 29))):=(Below.refl _ _).alloc (qL) _
 have HC:=qD fun(w1:World) (hb:Below w.heap.size w w1)=>rcode_any x c w1 (h.step hb)
 clear h
 go_enter Tryz.func31,Tryz.ntmps31
 go_upto_region 1 with fail
 change (Code.region 1 _ _).wp _ _ _ (w.alloc (.cells c.arr 29))
 generalize w.alloc (.cells c.arr 29)=wa at*
 obtain⟨q0,q1,q2,q3,q4⟩:=VAt.of_blk B0.out
 simp only[Nat.zero_add] at q0 q1 q2 q3 q4
 have HCA:=qD (HC.out wa BE.out)
 cases hA:allowB x
 ·have HV:Hid (hashV x=0):=by unfold Hid hashV;rw[hA];rfl
  rw[keyR_one_no hA] at HCA
  clear hA HC
  go_wp2_with fail
  refine HCA.out.mono ?_
  rintro e w1 ⟨rfl,hb⟩
  have CE:=qD (BE.out.step' hb)
  clear q0 q1 q2 q3 q4 hb HCA B0
  go_wp2_with fail
  go_ret
  exact⟨by rw[HV.out];rfl,CE.out⟩
 ·have HV:Hid (hashV x=((crcSum (strOfNums (encV x)):Nat):Int)):=by unfold Hid hashV;rw[hA];rfl
  have hz:=(allow_enc hA).2
  have hzz:(strOfNums (encV x)).size≤140737488355328:=by rw[strOfNums_size];omega
  rw[keyR_one_yes hA] at HCA
  have hlt:=crcSum_lt (strOfNums (encV x))
  obtain⟨S,hS⟩:∃S,S=strOfNums (encV x):=⟨_,rfl⟩
  rw[←hS] at HCA HV hzz hlt
  have HZ:=qD hzz
  obtain⟨q,hq⟩:∃q,q=crcSum S:=⟨_,rfl⟩
  rw[←hq] at HV hlt
  have HQ:=qD hq
  have qz:(q:Int)<4294967296:=by omega
  clear hA HC hS hz hzz hlt hq
  go_wp2_with fail
  refine HCA.out.mono ?_
  rintro e w1 ⟨rfl,hb⟩
  have CE:=qD (BE.out.step' hb)
  clear q0 q1 q2 q3 q4 hb HCA B0
  go_wp2_with fail
  refine(rcrc_any S w1 HZ.out).mono ?_
  rintro e w2 ⟨rfl,rfl⟩
  rw[←HQ.out]
  go_wp2_with fail
  go_ret
  exact⟨by rw[HV.out];rfl,CE.out⟩
theorem rint01_any(n:Int)(w:World):Calls Tryz.prog 17 #[.int .i64 n] w fun e w'=>e=.returned (VC.val ⟨3,n,ByteArray.empty,none,0,0,none,0,0⟩)∧Below w.heap.size w w':=by
 go_enter Tryz.func17,Tryz.ntmps17
 go_wp2_with fail
 exact bodyPost_ret (results_val rfl _ _ _ rfl _ ⟨3,n,ByteArray.empty,none,0,0,none,0,0⟩ (VAt.of_blk (Blk.new _ _ _))) rfl ⟨rfl,(Below.refl _ _).alloc (qL) _⟩
def Rng(l:List Int):Prop:=∀z∈l,0≤z∧z<256
theorem Rng.nil:Rng []:=fun z hz=>by simp at hz
theorem Rng.app{l m:List Int}(h:Rng l)(k:Rng m):Rng (l++m):=fun z hz=>(List.mem_append.1 hz).elim (h z) (k z)
theorem Rng.cons{a:Int}{l:List Int}(ha:0≤a∧a<256)(h:Rng l):Rng (a::l):=fun z hz=>by
 rcases List.mem_cons.1 hz with rfl|hz
 ·exact ha
 ·exact h z hz
theorem rng_nums(n:Int):Rng (nums n):=fun z hz=>by
 obtain⟨j,_,rfl⟩:=List.mem_map.1 hz
 exact num8_lt n _
theorem rng_text:∀l:List UInt8,Rng (textN l)
 | []=>Rng.nil
 | x::r=>by
  rw[textN]
  refine Rng.app ?_ (rng_text r)
  unfold byteN
  have:=x.toNat_lt
  split
  ·exact Rng.cons (by omega) (Rng.cons (by omega) Rng.nil)
  ·exact Rng.cons (by omega) Rng.nil
theorem rng_str(s:ByteArray):Rng (strN s):=fun z hz=>by
 obtain⟨x,_,rfl⟩:=List.mem_map.1 hz
 have:=x.toNat_lt
 omega
theorem rng_list:∀l:List Val,(∀y∈l,Rng (encV y))→Rng (encL l)
 | [],_=>by rw[encL];exact Rng.nil
 | y::r,h=>by rw[encL];exact Rng.cons (by omega) ((h y (by simp)).app (rng_list r fun z hz=>h z (by simp[hz])))
theorem rng_doc:∀l:List Fld,(∀f∈l,Rng (encV f.v))→Rng (encD l)
 | [],_=>by rw[encD];exact Rng.nil
 | f::r,h=>by
  rw[encD,encF_eq]
  exact Rng.app (Rng.cons (by omega) ((rng_str f.s).app (Rng.cons (by omega) (h f (by simp))))) (rng_doc r fun z hz=>h z (by simp[hz]))
theorem rng_enc(x:Val):SoundV nameB x→Rng (encV x):=by
 induction x using Val.ind with
 | h k n t l d ihl ihd=>
  intro hs
  obtain⟨hh,hl,hd,_⟩:=(SoundV_iff nameB _).1 hs
  have hk:1≤k∧k≤11:=by
   have:=hh.2.2.2.2
   simp only[Val.k] at this
   omega
  rw[encV]
  refine Rng.cons (by omega) ?_
  split
  ·exact rng_nums n
  split
  ·exact(rng_text _).app (Rng.cons (by omega) (Rng.cons (by omega) Rng.nil))
  split
  ·exact(rng_list l fun y hy=>ihl y hy (hl y hy)).app (Rng.cons (by omega) Rng.nil)
  split
  ·exact(rng_doc d fun f hf=>ihd f hf (hd f hf)).app (Rng.cons (by omega) Rng.nil)
  ·exact Rng.nil
theorem str_back{l:List Int}(h:Rng l):((strOfNums l).data.toList.map fun x=>(x.toNat:Int))=l:=by
 rw[strOfNums_data,List.map_map]
 conv=>rhs;rw[←List.map_id l]
 refine List.map_congr_left fun z hz=>?_
 have:=h z hz
 simp only[Function.comp_apply,id]
 rw[UInt8.toNat_ofNat']
 omega
theorem cmp_str{l m:List Int}(hl:Rng l)(hm:Rng m):cmpB (strOfNums l) (strOfNums m)=lexI l m:=by
 unfold cmpB
 rw[lexI_bytes,str_back hl,str_back hm]
theorem vparts{x:Val}(h:validV x=true):x.size≤1024∧x.height≤16∧SoundV nameB x:=by
 unfold validV at h
 simp only[Bool.and_eq_true,decide_eq_true_eq] at h
 exact⟨h.1.1,h.1.2,soundB_iff.1 h.2⟩
theorem vallow{x:Val}(h:validV x=true):allowB x=true:=by unfold allowB;rw[h,Bool.or_true]
theorem vint(y:Val):validV (intH y)=true:=by
 have hs:SoundV nameB (intH y):=(SoundV_iff _ _).2 ⟨⟨.inl rfl,.inr (.inr (.inr rfl)),.inr rfl,.inr rfl,.inr (.inr (.inr (.inl rfl)))⟩,by simp[intH,Val.l],by simp[intH,Val.d],by simp[intH,Val.d,NamesP]⟩
 have h1:(intH y).size=1:=by simp[intH,Val.size]
 have h2:(intH y).height=1:=by simp[intH,Val.height]
 unfold validV
 rw[decide_eq_true (by omega),decide_eq_true (by omega),soundB_true hs]
 rfl
theorem or1_of{x:Val}(h:validV x=true)(hn:NumsV x):Or1 x:=⟨(vparts h).2.2,hn⟩
theorem lexI_anti:∀(a b:List Int),lexI b a=-lexI a b
 | [],[]=>rfl
 | [],_::_=>rfl
 | _::_,[]=>rfl
 | x::r,y::s=>by
  rw[lexI,lexI,lexI_anti r s]
  split<;>split<;>first|omega|rfl
theorem lexI_nil(a:List Int):lexI [] a≤0:=by cases a<;>simp[lexI]
theorem lexI_tr:∀(a b c:List Int),lexI a b≤0→lexI b c≤0→lexI a c≤0∧(lexI a b<0∨lexI b c<0→lexI a c<0)
 | [],b,[],_,h=>by
  cases b with
  | nil=>exact⟨by simp[lexI],fun h=>by simp[lexI] at h⟩
  | cons x r=>simp[lexI] at h
 | [],_,_::_,_,_=>⟨by simp[lexI],fun _=>by simp[lexI]⟩
 | x::r,[],_,h,_=>by simp[lexI] at h
 | x::r,y::s,[],_,h=>by simp[lexI] at h
 | x::r,y::s,z::t,h1,h2=>by
  simp only[lexI] at h1 h2 ⊢
  by_cases a1:x<y
  ·rw[if_pos a1] at*
   by_cases a2:y<z
   ·rw[if_pos (by omega)];exact⟨by omega,fun _=>by omega⟩
   ·rw[if_neg a2] at*
    by_cases a3:z<y
    ·rw[if_pos a3] at h2;omega
    ·rw[if_pos (by omega)];exact⟨by omega,fun _=>by omega⟩
  ·rw[if_neg a1] at*
   by_cases b1:y<x
   ·rw[if_pos b1] at h1;omega
   ·rw[if_neg b1] at*
    by_cases a2:y<z
    ·rw[if_pos (by omega)];exact⟨by omega,fun _=>by omega⟩
    ·rw[if_neg a2] at*
     by_cases a3:z<y
     ·rw[if_pos a3] at h2;omega
     ·rw[if_neg a3] at*
      rw[if_neg (by omega),if_neg (by omega)]
      exact lexI_tr r s t h1 h2
theorem lexI_le_lt{a b c:List Int}(h1:lexI a b≤0)(h2:lexI b c<0):lexI a c<0:=(lexI_tr a b c h1 (by omega)).2 (.inr h2)
theorem lexI_lt_le{a b c:List Int}(h1:lexI a b<0)(h2:lexI b c≤0):lexI a c<0:=(lexI_tr a b c (by omega) h2).2 (.inl h1)
def afterL:List Int→Option (List Int)
 | []=>none
 | x::r=>match afterL r with
  | some t=>some (x::t)
  | none=>if x=255 then none else some [x+1]
theorem afterL_none:∀{l:List Int},afterL l=none→∀x∈l,x=255
 | [],_,x,hx=>by simp at hx
 | y::r,h,x,hx=>by
  unfold afterL at h
  cases hr:afterL r with
  | some t=>rw[hr] at h;simp at h
  | none=>
   rw[hr] at h
   simp only at h
   by_cases hy:y=255
   ·rcases List.mem_cons.1 hx with rfl|hx
    ·exact hy
    ·exact afterL_none hr x hx
   ·rw[if_neg hy] at h;simp at h
theorem afterL_some{l:List Int}{x:Int}(hx:x∈l)(h:x≠255):∃t,afterL l=some t:=by
 cases e:afterL l with
 | some t=>exact⟨t,rfl⟩
 | none=>exact absurd (afterL_none e x hx) h
theorem afterL_gt:∀{l t:List Int},afterL l=some t→∀a,lexI (l++a) t<0
 | [],t,h,a=>by simp[afterL] at h
 | x::r,t,h,a=>by
  unfold afterL at h
  cases hr:afterL r with
  | some u=>
   rw[hr] at h
   simp only[Option.some.injEq] at h
   subst h
   rw[List.cons_append,lexI_cons]
   exact afterL_gt hr a
  | none=>
   rw[hr] at h
   simp only at h
   by_cases hy:x=255
   ·rw[if_pos hy] at h;simp at h
   ·rw[if_neg hy] at h
    simp only[Option.some.injEq] at h
    subst h
    rw[List.cons_append,lexI_lt (by omega)]
    omega
theorem top_ge:∀{y:List Int} {m:Nat},Rng y→y.length<m→¬lexI (List.replicate m 255) y<0
 | [],0,_,h=>by simp at h
 | [],m+1,_,_=>by simp[List.replicate,lexI]
 | y::s,0,_,h=>by simp at h
 | y::s,m+1,hy,h=>by
  have h0:=hy y (by simp)
  have ih:=top_ge (y:=s) (m:=m) (fun z hz=>hy z (by simp[hz])) (by simpa using h)
  rw[List.replicate_succ,lexI,if_neg (by omega)]
  split
  ·omega
  ·exact ih
theorem afterL_le:∀{l t:List Int},afterL l=some t→∀{y:List Int},Rng y→(∀a,lexI (l++a) y<0)→lexI t y≤0
 | [],t,h,y,_,_=>by simp[afterL] at h
 | x::r,t,h,[],_,hy=>by have:=hy [];simp[lexI] at this
 | x::r,t,h,y::s,hr0,hy=>by
  have hxy:x≤y:=by
   have:=hy []
   rw[List.cons_append,lexI] at this
   split at this
   ·omega
   ·split at this
    ·omega
    ·omega
  unfold afterL at h
  cases hr:afterL r with
  | some u=>
   rw[hr] at h
   simp only[Option.some.injEq] at h
   subst h
   by_cases hlt:x<y
   ·rw[lexI_lt hlt];omega
   ·obtain rfl:x=y:=by omega
    rw[lexI_cons]
    refine afterL_le hr (fun z hz=>hr0 z (by simp[hz])) fun a=>?_
    have:=hy a
    rwa [List.cons_append,lexI_cons] at this
  | none=>
   rw[hr] at h
   simp only at h
   by_cases h255:x=255
   ·rw[if_pos h255] at h;simp at h
   ·rw[if_neg h255] at h
    simp only[Option.some.injEq] at h
    subst h
    by_cases hlt:x<y
    ·rw[lexI]
     split
     ·omega
     ·split
      ·omega
      ·exact lexI_nil s
    ·obtain rfl:x=y:=by omega
     exfalso
     have h1:=hy (List.replicate (s.length+1) 255)
     rw[List.cons_append,lexI_cons] at h1
     have e:r++List.replicate (s.length+1) 255=List.replicate (r.length+(s.length+1)) 255:=by
      rw[show r=List.replicate r.length 255 from List.eq_replicate_iff.2 ⟨rfl,afterL_none hr⟩,List.length_replicate,List.replicate_append_replicate]
     rw[e] at h1
     exact top_ge (fun z hz=>hr0 z (by simp[hz])) (by omega) h1
theorem rng_after:∀{l t:List Int},Rng l→afterL l=some t→Rng t
 | [],t,_,h=>by simp[afterL] at h
 | x::r,t,hl,h=>by
  have hx:=hl x (by simp)
  unfold afterL at h
  cases hr:afterL r with
  | some u=>
   rw[hr] at h
   simp only[Option.some.injEq] at h
   subst h
   exact Rng.cons hx (rng_after (fun z hz=>hl z (by simp[hz])) hr)
  | none=>
   rw[hr] at h
   simp only at h
   by_cases h255:x=255
   ·rw[if_pos h255] at h;simp at h
   ·rw[if_neg h255] at h
    simp only[Option.some.injEq] at h
    subst h
    exact Rng.cons (by omega) Rng.nil
def endL(a:Cut):List Int:=if a.2 then(afterL (encV a.1)).getD [] else encV a.1
def VO(a:Cut):Prop:=validV a.1=true∧NumsV a.1
theorem VO.or{a:Cut}(h:VO a):Or1 a.1:=or1_of h.1 h.2
theorem VO.rng{a:Cut}(h:VO a):Rng (encV a.1):=rng_enc a.1 (vparts h.1).2.2
theorem VO.after{a:Cut}(h:VO a):∃t,afterL (encV a.1)=some t:=by
 have hk:=kind_range h.1
 rw[encV_eq]
 exact afterL_some (x:=a.1.k) (by simp) (by omega)
theorem VO.erng{a:Cut}(h:VO a):Rng (endL a):=by
 unfold endL
 obtain⟨t,ht⟩:=h.after
 split
 ·rw[ht];exact rng_after h.rng ht
 ·exact h.rng
theorem end_le{a b:Cut}(ha:VO a)(hb:VO b)(h:cmC a b<0):lexI (endL a) (endL b)≤0∧(¬(a.2=true∧b.2=false)→lexI (endL a) (endL b)<0):=by
 obtain⟨x,p⟩:=a
 obtain⟨y,q⟩:=b
 obtain⟨t,ht⟩:=ha.after
 obtain⟨u,hu⟩:=hb.after
 simp only at ht hu
 have gu:=afterL_gt hu []
 rw[List.append_nil] at gu
 by_cases h0:cmpV x y=0
 ·have e:x=y:=cmpV_same (nm:=nameB) x y (vparts ha.1).2.2 (vparts hb.1).2.2 h0
  subst e
  have hpq:p=false∧q=true:=by
   unfold cmC lex cmB at h
   simp only[h0] at h
   cases p<;>cases q<;>simp_all
  obtain⟨rfl,rfl⟩:=hpq
  unfold endL
  simp only[hu,Option.getD_some,Bool.false_eq_true,if_false,if_true]
  exact⟨by omega,fun _=>gu⟩
 ·have hlt:cmpV x y<0:=by
   unfold cmC lex at h
   by_cases h':cmpV x y<0
   ·exact h'
   ·simp_all
  have ho:∀c d,lexI (encV x++c) (encV y++d)<0:=fun c d=>by
   rw[enc_order x y ha.or hb.or c d,orI_ne h0];exact hlt
  have h1:lexI (encV x) (encV y)<0:=by have:=ho [] [];rwa [List.append_nil,List.append_nil] at this
  have h2:lexI t (encV y)≤0:=afterL_le ht hb.rng fun c=>by have:=ho c [];rwa [List.append_nil] at this
  unfold endL
  simp only[ht,hu,Option.getD_some]
  cases p<;>cases q<;>simp only[Bool.false_eq_true,if_false,if_true]
  ·exact⟨by omega,fun _=>h1⟩
  ·have:=lexI_lt_le h1 (show lexI (encV y) u≤0 by omega)
   exact⟨by omega,fun _=>this⟩
  ·exact⟨h2,fun h=>absurd ⟨trivial,trivial⟩ h⟩
  ·have:=lexI_le_lt h2 gu
   exact⟨by omega,fun _=>this⟩
end Go.Proofs.YtfkapannahcjiaaGreatDoor
