/- A part of the proof. -/
import Derived.Test.YtgfoliedmhgpnaaGreatDoorBn30
import Derived.Test.YtgfoliedmhgpnaaGreatDoorBn28
set_option maxRecDepth 100000
set_option maxHeartbeats 16000000
set_option linter.unusedSimpArgs false
open Go.Proofs.Tryz
open ByteArray (empty)
namespace Go.Proofs.YtgfoliedmhgpnaaGreatDoor
open Go.RowKit
section
variable {b c k size:Nat} {op x y:Int} {w:World} {t:TypeId}
def fN(p:aX)(x:aC)(b:Bool):Prop:=(p.op=11->b=(x.k==p.n))/\(p.op=16->b=(x.k==4&&iE x.t p.arg.2.t))
theorem fN.any{p:aX}{x:aC}{b:Bool}(h:p.op≠11)(h':p.op≠16):fN p x b:=⟨fun e=>absurd e h,fun e=>absurd e h'⟩
theorem tE{x:aC}(h:aL x=true)(h4:x.k=4):x.t.size<=4096:=by
 unfold aL at h;rw[Kz,fY] at h;cases x with
 | mk k n t l d=>
  have h5:dl k n t l.length d.length:=h.2.1;have h6:=h5.2.2.2.2;have hk:k=4:=h4;subst hk;show t.size<=4096;rcases h6 with e|e|e|e|⟨e,_⟩|⟨e,_⟩|⟨_,e,_⟩|⟨e,_⟩|⟨e,_⟩|e|e
  all_goals first
   | exact e
   | exact absurd e (by decide)
theorem xh(p:aX)(x:aC)(c:VC)(w:World)(hw:WP w p)(hv:kS p)(hx:RW w c x)(hS:dJ w)(ht:x.k=4->x.t.size<=4096):Calls prog 158 #[aW p,c.val] w (am (fN p x) w):=by
 have W:=qD hw.open;have V:=qD hv.open;have HX:=qD hx;have HK:Hid (c.k=x.k):=qD hx.open.k;have HTX:Hid (c.t=x.t):=qD hx.open.t;have HAT:Hid (p.arg.1.t=p.arg.2.t):=qD hw.open.arg.open.t;have HS:=qD hS;have HTE:=qD ht;clear hw hv hx hS ht;have B0:Hid (aG ((w.alloc (.cells (aD p) 38)).alloc (.cells c.arr 29)) w.heap.size 38 (aD p)):=(aG.Ii rfl).alloc _;have B1:Hid (aG ((w.alloc (.cells (aD p) 38)).alloc (.cells c.arr 29)) (w.heap.size+1) 29 c.arr):=aG.Ii (by simp);have BE:Hid (Below w.heap.size w ((w.alloc (.cells (aD p) 38)).alloc (.cells c.arr 29))):=((Ju _ _).alloc (qL) _).alloc (by simp) _;go_enter func158,ntmps158;go_upto_region 1 with fail
 change Code.wp _ _ _ _ ((w.alloc (.cells (aD p) 38)).alloc (.cells c.arr 29));generalize (w.alloc (.cells (aD p) 38)).alloc (.cells c.arr 29)=wa at*;obtain⟨d0,d1,d2,d4,d7,d8,d9,d24⟩:=aR B0.out;obtain⟨a0,a1,a2,a3,a4⟩:=aS.Ig B1.out;simp only[Jw] at a1 a2 a3 a4;by_cases h11:p.op=11
 ·have HO:=qD h11;rw[h11] at d0;clear h11;go_wp2_with fail;go_ret;exact am.of ⟨fun _=>by rw[<-HK.out],fun e=>absurd (HO.out.symm.trans e) (by decide)⟩ BE.out
 by_cases h12:p.op=12
 ·have HO:=qD h12;rw[h12] at d0;clear h11 h12;cases h3:(c.k==3)
  all_goals
   go_wp2_with (go_at_call 203;refine(AE _ _ _ _).mono ?_;rintro e w1 ⟨r,rfl,_,hb⟩;replace BE:=qD (BE.out.Ih hb);clear hb);go_ret;exact am.of (fN.any (by rw[HO.out];decide) (by rw[HO.out];decide)) BE.out
 by_cases h16:p.op=16
 ·have HO:=qD h16;rw[h16] at d0;clear h11 h12 h16;obtain⟨z,hz⟩:∃z,iE c.t p.arg.1.t=z:=⟨_,rfl⟩;have HZ:=qD hz;have HPF:=qD fun w1=>su c.t p.arg.1.t w1;rw[hz] at HPF;clear hz;cases h4:(c.k==4)
  ·have HR:Hid ((x.k==4&&iE x.t p.arg.2.t)=false):=qD (by rw[<-HK.out,h4];rfl);go_wp2_with fail;go_ret;exact am.of ⟨fun e=>absurd (HO.out.symm.trans e) (by decide),fun _=>HR.out.symm⟩ BE.out
  ·have HR:Hid ((x.k==4&&iE x.t p.arg.2.t)=z):=qD (by rw[<-HK.out,h4,<-HTX.out,<-HAT.out,HZ.out];rfl);go_wp2_with (go_at_call 204;refine(HPF.out _).mono ?_;rintro e w1 ⟨rfl,hb⟩;replace BE:=qD (BE.out.Ih hb);clear hb);go_ret;exact am.of ⟨fun e=>absurd (HO.out.symm.trans e) (by decide),fun _=>HR.out.symm⟩ BE.out
 by_cases h17:p.op=17
 ·have HO:=qD h17;have HPT:Hid (p.arg.1.t.size<=4096):=qD (by rw[HAT.out];exact tE (V.out.argA (by omega)) (V.out.textA (by omega)));rw[h17] at d0;clear h11 h12 h16 h17;cases h4:(c.k==4)
  ·go_wp2_with fail;go_ret;exact am.of (fN.any (by rw[HO.out];decide) (by rw[HO.out];decide)) BE.out
  ·have HCT:Hid (c.t.size<=4096):=qD (by rw[HTX.out];exact HTE.out (by rw[<-HK.out];simpa using h4));go_wp2_with (go_at_call 205;refine(xK _ _ _ (KM HPT.out (by decide)) (KM HCT.out (by decide))).mono ?_;rintro e w1 ⟨r,rfl,_,hb⟩;replace BE:=qD (BE.out.Ih hb);clear hb);go_ret;exact am.of (fN.any (by rw[HO.out];decide) (by rw[HO.out];decide)) BE.out
 by_cases h19:p.op=19
 ·have HO:=qD h19;have HPT:Hid (p.arg.1.t.size<=4096):=qD (by rw[HAT.out];exact tE (V.out.argA (by omega)) (V.out.textA (by omega)));rw[h19] at d0;clear h11 h12 h16 h17 h19;cases h4:(c.k==4)
  ·go_wp2_with fail;go_ret;exact am.of (fN.any (by rw[HO.out];decide) (by rw[HO.out];decide)) BE.out
  ·have HCT:Hid (c.t.size<=4096):=qD (by rw[HTX.out];exact HTE.out (by rw[<-HK.out];simpa using h4));go_wp2_with (go_at_call 208;refine(xX _ _ _ (HS.out.step BE.out) (KM HPT.out (by decide)) (KM HCT.out (by decide))).mono ?_;rintro e w1 ⟨r,rfl,_,hb⟩;replace BE:=qD (BE.out.Ih hb);clear hb);go_ret;exact am.of (fN.any (by rw[HO.out];decide) (by rw[HO.out];decide)) BE.out
 by_cases h18:p.op=18
 ·have HO:=qD h18;rw[h18] at d0;clear h11 h12 h16 h17 h19 h18;have HPO:=qD (ER x c wa (HX.out.step BE.out));go_upto_region 12 with(go_at_call 206;refine HPO.out.mono ?_;rintro e w1 ⟨pa,pb,er,rfl,hb⟩;replace B0:=qD (B0.out.step hb);replace BE:=qD (BE.out.Ih hb);clear hb)
  change Code.wp _ _ _ _ (w1.alloc (.cells #[Value.int IntKind.i64 pa,Value.int IntKind.i64 pb] 174));have J:Hid (aG (w1.alloc (.cells #[Value.int IntKind.i64 pa,Value.int IntKind.i64 pb] 174)) w1.heap.size 174 #[Value.int IntKind.i64 pa,Value.int IntKind.i64 pb]):=aG.Ii rfl;replace B0:=qD (B0.out.alloc (.cells #[Value.int IntKind.i64 pa,Value.int IntKind.i64 pb] 174));replace BE:=qD (BE.out.alloc BE.out.size (Obj.cells #[Value.int IntKind.i64 pa,Value.int IntKind.i64 pb] 174));generalize w1.alloc (.cells #[Value.int IntKind.i64 pa,Value.int IntKind.i64 pb] 174)=w2 at*;clear d0 d1 d2 d4 d7 d8 d9 d24 a0 a1 a2 a3 a4 HPO B1;have q0:=J.out.cell 0;have q1:=J.out.cell 1;simp at q0 q1;have RS:=qD (jO B0.out);have HIN:=qD (xg p.sk p.pts.A p.pts.n p.pts.c p.sr p.pts.xs pa pb w2 (W.out.pts.step BE.out) (by have:=W.out.psz;unfold aH at this;unfold maxLen;omega));by_cases he:er=0
  ·subst he
   go_wp2_with (first
    | ((with_reducible show wpList _ _ _ (⟨_,.load 32 _,_,_,_,_⟩::_) _ _);refine aE rfl 32 _ rfl w.heap.size 10 rfl _ _ RS.out Mv rfl (by kernel_rfl) ?_)
    | (go_at_call 207;refine HIN.out.mono ?_;rintro e w3 ⟨r,rfl,_,hb⟩;replace BE:=qD (BE.out.Ih hb);clear hb))
   go_ret;exact am.of (fN.any (by rw[HO.out];decide) (by rw[HO.out];decide)) BE.out
  ·have heb:(er==0)=false:=by simpa using he
   go_wp2_with fail;go_ret;exact am.of (fN.any (by rw[HO.out];decide) (by rw[HO.out];decide)) BE.out
 ·have HO:Hid (p.op≠11/\p.op≠16):=qD ⟨h11,h16⟩;go_wp2_with fail;go_ret;exact am.of (fN.any HO.out.1 HO.out.2) BE.out
theorem pe{x y:aC}(h:aL x=true)(hy:y∈x.parts):aL y=true:=by
 obtain⟨h1,h2,h3⟩:=bh h;have hh:=(al _ _).1 h3;have h4:=dB hy;have h5:=jE hy;refine fk (by omega) (by omega) ?_;unfold aC.parts at hy;split at hy
 ·exact hh.2.1 y hy
 ·split at hy
  ·obtain⟨f,hf,rfl⟩:=LL.1 hy;exact hh.2.2.1 f hf
  ·cases hy
end
structure rf(x:aC):Prop where
 size:x.size<=1024
 text:∀y,cN y x->y.k=4->y.t.size<=4096
 ok:x=aC.zero\/aL x=true
section
variable {xs:List ByteArray} {c i n size:Nat} {a x y:Int} {w w':World} {e:TypeId}
theorem jR{x y:aC}(hy:cN y x)(h:x=aC.zero\/aL x=true):y=aC.zero\/aL y=true:=by
 induction hy with
 | refl=>exact h
 | part hz _ ih=>
  refine ih ?_;rcases h with rfl|h
  ·exact absurd hz (by simp[aC.parts,aC.zero,aC.k])
  ·exact .inr (pe h hz)
theorem rf.part{x y:aC}(h:rf x)(hy:cN y x):rf y:=by
 refine⟨KM hy.size h.size,fun z hz=>h.text z ?_,jR hy h.ok⟩
 induction hz with
 | refl=>exact hy
 | part hq _ ih=>
  refine ih ?_
  have:∀{y x:aC},cN y x->∀z,z∈y.parts->cN z x:=by
   intro y x h
   induction h with
   | refl=>intro z hz;exact .part hz (.refl z)
   | part hq _ ih=>intro z hz;exact .part hq (ih z hz)
  exact this hy _ hq
theorem rf.zero:rf aC.zero:=by
 refine⟨by decide,fun y hy h4=>?_,.inl rfl⟩;cases hy with
 | refl=>exact absurd h4 (by decide)
 | part hz _=>exact absurd hz (by simp[aC.parts,aC.zero,aC.k])
theorem rf.leaf{x y:aC}(h:rf x)(hy:cN y x\/y=aC.zero):rf y:=by
 rcases hy with hy|rfl
 ·exact h.part hy
 ·exact rf.zero
noncomputable def pf(x:aC)(l:List ByteArray)(a:aC):Bool:=(cj x l).any (iu a)
noncomputable def kW(p:aX)(x:aC)(i:Nat):Nat:=((p.args.xs.take i).filter fun a=>pf x p.path.xs a.2).length
theorem xi{p:aX}{x:aC}{i:Nat}{a:PV}(h:p.args.xs[i]?=some a):kW p x (i+1)=kW p x i+(if pf x p.path.xs a.2 then 1 else 0):=by
 unfold kW;rw[Le,h,List.filter_append,KV];congr 1;by_cases hq:pf x p.path.xs a.2=true
 ·rw[Kb hq];simp[hq]
 ·rw[KU hq];simp[hq]
theorem Ck(p:aX)(x:aC)(i:Nat):kW p x i<=i:=by
 unfold kW;exact KM (List.length_filter_le _ _) (by rw[LI];exact Nz _ _)
theorem iP{ps:List PV}{zs:List aC}(h:ps.map Prod.snd=zs)(f:aC->Bool):(ps.any fun p=>f p.2)=zs.any f:=by
 rw[<-h,List.any_map];rfl
theorem xj(p:aX)(x:aC)(c:VC)(w:World)(hw:WP w p)(hx:RW w c x)(hok:rf x)(hl:p.path.xs.length<=16):Calls prog 102 #[aW p,c.val] w fun e w'=>e=.returned (.int .i64 (kW p x p.args.n:Nat))/\Below w.heap.size w w':=by
 have W:=qD hw.open;have haz:p.args.n<=1048576:=W.out.few;have B0:Hid (aG ((w.alloc (.cells (aD p) 38)).alloc (.cells c.arr 29)) w.heap.size 38 (aD p)):=(aG.Ii rfl).alloc _;have B1:Hid (aG ((w.alloc (.cells (aD p) 38)).alloc (.cells c.arr 29)) (w.heap.size+1) 29 c.arr):=aG.Ii (by simp);have BE:Hid (Below w.heap.size w ((w.alloc (.cells (aD p) 38)).alloc (.cells c.arr 29))):=((Ju _ _).alloc (qL) _).alloc (by simp) _;have HX:Hid (RV (fun b=>b<w.heap.size) w c x):=qD (hx.lt.mono fun b hb=>hb.2);have HOK:=qD hok;have HLL:=qD hl;clear hw hx hok hl;go_enter func102,ntmps102;go_upto_region 1 with fail
 change Code.wp _ _ _ _ ((w.alloc (.cells (aD p) 38)).alloc (.cells c.arr 29));generalize (w.alloc (.cells (aD p) 38)).alloc (.cells c.arr 29)=wa at*;obtain⟨d0,d1,-,-,-,-,-,-⟩:=aR B0.out;obtain⟨a0,a1,a2,a3,a4⟩:=aS.Ig B1.out;simp only[Jw] at a1 a2 a3 a4;have HLV:=qD (lh x (fun b=>b<w.heap.size) p.path.xs c p.path.A p.path.n p.path.c wa (fun b hb=>Ka hb BE.out.size) (HX.out.keep fun b hb=>BE.out.block b hb) (W.out.path.step BE.out) HOK.out.size HLL.out);go_upto_region 2 with(go_at_call 100;refine HLV.out.mono ?_;rintro e w1 ⟨A1,M,c1,ps,rfl,hsr,hlf,hM,hb⟩;have HSR:=qD hsr;have HLF:=qD hlf;have HM:=qD hM;have C0:=qD (B0.out.step hb);have CB:=qD hb;clear hsr hlf hM hb)
 clear d0 d1 a0 a1 a2 a3 a4 HLV B1;go_upto_region 4 with fail
 go_loopw [6,7] (fun v6 v7 wr=>∃i:Nat,i<=p.args.n/\v7=.int .i64 i/\v6=.int .i64 (kW p x i:Nat)/\Below w1.heap.size w1 wr) (fun _ v7 _=>p.args.n-(intOf v7).toNat)
 ·exact⟨0,KD _,rfl,rfl,Ju _ _⟩
 case round=>
  obtain⟨i,hi,rfl,rfl,hB⟩:=hrel;have HB:=qD hB;have D0:=qD (C0.out.step hB);have DE:=qD (BE.out.Ih (CB.out.Ih hB));clear hB;obtain⟨-,-,-,-,d7,-,-,-⟩:=aR D0.out;have hcn:=Ck p x i;by_cases hlt:i<p.args.n
  ·obtain⟨b,off,a,hA,hb,hxx,hm,hrg⟩:=W.out.args.sr.row hlt;have RG:=qD (bD hrg DE.out hb);have HV:=qD ((W.out.args.rv a hm).step DE.out);have HNX:=qD (xi (x:=x) hxx);rw[hA] at d7;have HEQ:=qD (kM ps a.2 a.1 A1 M c1 wr (HSR.out.step HB.out) (fun q hq=>((HLF.out.rv q hq).step (CB.out.Ih HB.out)).mono fun _ _=>trivial) HV.out HM.out);rw[iP HLF.out.fn (iu a.2)] at HEQ;obtain⟨z,hz⟩:∃z,pf x p.path.xs a.2=z:=⟨_,rfl⟩;have hz':(cj x p.path.xs).any (iu a.2)=z:=hz;rw[hz'] at HEQ;rw[hz] at HNX;clear hrg hA hxx hz hz';have i0:(0:Int)<=(i:Int):=by omega
   have i1:(i:Int)<(p.args.n:Int):=by omega
   go_wp2_with (first
    | ((with_reducible show wpList _ _ _ (⟨_,.load 29 _,_,_,_,_⟩::_) _ _);refine aE rfl 29 _ rfl b (off+i*5) rfl _ _ RG.out LU rfl (by kernel_rfl) ?_)
    | (go_at_call 99;refine HEQ.out.mono ?_;rintro e w2 ⟨rfl,hb2⟩;have HB2:=qD hb2;clear hb2;cases z))
   ·go_roundw
    ·exact⟨i+1,by omega,by go_num,by rw[HNX.out];rfl,HB.out.Ih HB2.out⟩
    ·simp[intOf];omega
   ·go_roundw
    ·exact⟨i+1,by omega,by go_num,by rw[HNX.out];go_num,HB.out.Ih HB2.out⟩
    ·simp[intOf];omega
  ·obtain rfl:i=p.args.n:=by omega
   go_wp2_with fail;go_ret;exact⟨rfl,DE.out⟩
def gR:aX->aC->Bool->Prop
 | .mk op path arg args n _ _ _ _ _ _ _ _ kids,x,b=>
  (op=2->b=pf x path.xs arg.2)/\(op=4\/op=5\/op=6\/op=7->b=(cj x path.xs).any (gD op arg.2))/\(op=8->b=args.xs.any fun a=>pf x path.xs a.2)/\
   (op=11->b=(cj x path.xs).any fun z=>z.k==n)/\(op=16->b=(cj x path.xs).any fun z=>z.k==4&&iE z.t arg.2.t)/\
   (op=20->∃bs,ElRs kids x bs/\b=bs.all id)/\(op=21->∃bs,ElRs kids x bs/\b=bs.any id)
where ElRs:List aX->aC->List Bool->Prop
 | [],_,bs=>bs=[]
 | k::r,x,bs=>∃b q,bs=b::q/\gR k x b/\ElRs r x q
end
structure mj(p:aX)(x:aC)(b:Bool):Prop where
 eq:p.op=2->b=pf x p.path.xs p.arg.2
 ord:p.op=4\/p.op=5\/p.op=6\/p.op=7->b=(cj x p.path.xs).any (gD p.op p.arg.2)
 isin:p.op=8->b=p.args.xs.any fun a=>pf x p.path.xs a.2
 kind:p.op=11->b=(cj x p.path.xs).any fun z=>z.k==p.n
 pre:p.op=16->b=(cj x p.path.xs).any fun z=>z.k==4&&iE z.t p.arg.2.t
 all:p.op=20->∃bs,gR.ElRs p.kids x bs/\b=bs.all id
 one:p.op=21->∃bs,gR.ElRs p.kids x bs/\b=bs.any id
section
variable {l xs:List ByteArray} {b c k i n q size bs:Nat} {op a x:Int} {w w':World} {e:TypeId}
theorem mj.shut{p:aX}{x:aC}{b:Bool}(h:mj p x b):gR p x b:=by
 cases p;exact⟨h.eq,h.ord,h.isin,h.kind,h.pre,h.all,h.one⟩
theorem gR.open{p:aX}{x:aC}{b:Bool}(h:gR p x b):mj p x b:=by
 cases p;obtain⟨h1,h2,h3,h4,h5,h6,h7⟩:=h;exact⟨h1,h2,h3,h4,h5,h6,h7⟩
theorem gR.any{p:aX}{x:aC}{b:Bool}(h:p.op=1\/p.op=3\/p.op=9\/p.op=10\/p.op=12\/p.op=13\/p.op=14\/p.op=15\/17<=p.op)(h1:p.op≠20)(h2:p.op≠21):gR p x b:=
 mj.shut ⟨fun e=>by omega,fun e=>by omega,fun e=>by omega,fun e=>by omega,fun e=>by omega,fun e=>by omega,fun e=>by omega⟩
theorem ElRs.snoc{x:aC}{k:aX}{b:Bool}:∀{l:List aX} {i:Nat} {bs:List Bool},gR.ElRs (l.take i) x bs->l[i]?=some k->gR k x b->gR.ElRs (l.take (i+1)) x (bs++[b]):=by
 intro l
 induction l with
 | nil=>intro i bs _ h;simp at h
 | cons a r ih=>
  intro i bs h hk hb;cases i with
  | zero=>
   simp only[Lp,gR.ElRs] at h;subst h;simp at hk;subst hk;simp only[LY,Lp,gR.ElRs,NV];exact⟨b,[],rfl,hb,rfl⟩
  | succ i=>
   simp only[LY,gR.ElRs] at h ⊢;obtain⟨b0,q,rfl,h1,h2⟩:=h;exact⟨b0,q++[b],rfl,h1,ih h2 (by simpa using hk) hb⟩
theorem ElRs.len{x:aC}:∀{l:List aX} {bs:List Bool},gR.ElRs l x bs->bs.length=l.length:=by
 intro l
 induction l with
 | nil=>intro bs h;simp only[gR.ElRs] at h;subst h;rfl
 | cons a r ih=>
  intro bs h;simp only[gR.ElRs] at h;obtain⟨b0,q,rfl,_,h2⟩:=h;simp[ih h2]
def kX(bs:List Bool):Nat:=(bs.filter id).length
theorem rh(bs:List Bool)(b:Bool):kX (bs++[b])=kX bs+(if b then 1 else 0):=by
 unfold kX;rw[List.filter_append,KV];cases b<;>rfl
theorem yw(bs:List Bool):kX bs<=bs.length:=List.length_filter_le _ _
def Cm(p:aX):Prop:=∀(x:aC) (c:VC) (w:World),WP w p->kS p->RW w c x->rf x->dJ w->cY w->Calls prog 38 #[aW p,c.val] w (am (gR p x) w)
theorem xl(p:aX)(ih:∀k∈p.kids,Cm k)(x:aC)(c:VC)(w:World)(hw:WP w p)(hv:∀k∈p.kids,kS k)(hx:RW w c x)(hok:rf x)(hS:dJ w)(hT:cY w):Calls prog 104 #[aW p,c.val] w fun e w'=>∃bs,e=.returned (.int .i64 (kX bs:Nat))/\gR.ElRs p.kids x bs/\Below w.heap.size w w':=by
 have W:=qD hw.open;have hkz:p.kn<=140737488355328:=by have:=W.out.ksz;unfold aH at this;omega
 have HE:Hid (∀k∈p.kids,∀wr,Below w.heap.size w wr->Calls prog 38 #[aW k,c.val] wr (am (gR k x) wr)):=qD fun k hk wr hb=>ih k hk x c wr ((W.out.kids k hk).step hb) (hv k hk) (hx.step hb) hok (hS.step hb) (hT.step hb);have B0:Hid (aG ((w.alloc (.cells (aD p) 38)).alloc (.cells c.arr 29)) w.heap.size 38 (aD p)):=(aG.Ii rfl).alloc _;have B1:Hid (aG ((w.alloc (.cells (aD p) 38)).alloc (.cells c.arr 29)) (w.heap.size+1) 29 c.arr):=aG.Ii (by simp);have BE:Hid (Below w.heap.size w ((w.alloc (.cells (aD p) 38)).alloc (.cells c.arr 29))):=((Ju _ _).alloc (qL) _).alloc (by simp) _;clear hw hx hok hv hS hT ih;go_enter func104,ntmps104;go_upto_region 1 with fail
 change Code.wp _ _ _ _ ((w.alloc (.cells (aD p) 38)).alloc (.cells c.arr 29));generalize (w.alloc (.cells (aD p) 38)).alloc (.cells c.arr 29)=wa at*;go_upto_region 3 with fail
 go_loopw [5,6] (fun v5 v6 wr=>∃(i:Nat) (bs:List Bool),i<=p.kn/\v6=.int .i64 i/\v5=.int .i64 (kX bs:Nat)/\gR.ElRs (p.kids.take i) x bs/\Below wa.heap.size wa wr) (fun _ v6 _=>p.kn-(intOf v6).toNat)
 ·exact⟨0,[],KD _,rfl,rfl,by simp[gR.ElRs],Ju _ _⟩
 case round=>
  obtain⟨i,bs,hi,rfl,rfl,hel,hB⟩:=hrel;have HEL:=qD hel;have HB:=qD hB;have D0:=qD (B0.out.step hB);have D1:=qD (B1.out.step hB);have DE:=qD (BE.out.Ih hB)
  have hcb:kX bs<=p.kn:=by
   have h1:=yw bs;have h2:=ElRs.len hel;rw[LI] at h2;omega
  clear hel hB;obtain⟨-,-,-,-,-,-,-,d24⟩:=aR D0.out;obtain⟨a0,a1,a2,a3,a4⟩:=aS.Ig D1.out;simp only[Jw] at a1 a2 a3 a4;by_cases hlt:i<p.kn
  ·obtain⟨kb,ko,k,hA,hb,hxx,hm,hrg⟩:=W.out.sr.row hlt;have HXK:=qD hxx;have RG:=qD (bD hrg DE.out hb);have HLB:Hid (kb<wr.heap.size):=qD (Ka hb DE.out.size);have IX:=qD fun(w':World) (hw:Below wr.heap.size wr w')=>HE.out k hm w' (DE.out.Ih hw);rw[hA] at d24;have i0:(0:Int)<=(i:Int):=by omega
   have i1:(i:Int)<(p.kn:Int):=by omega
   clear hrg hA hxx;go_upto_region 5 with fail
   have KS:Hid (∀w',Below wr.heap.size wr w'->(fun w'=>(Instr.loadAt 38 (.pointer (some ⟨kb,ko+i*25,none⟩))).run prog w'=.ok (.agg (aq k).toArray) w'/\w'.cell? ⟨w.heap.size,24,none⟩=some (.slice (some ⟨kb,ko,none⟩) p.kn p.kc)/\w'.cell? ⟨w.heap.size+1,0,none⟩=some (.int .i64 c.k)/\w'.cell? ⟨w.heap.size+1,1,none⟩=some (.int .i64 c.n)/\w'.cell? ⟨w.heap.size+1,2,none⟩=some (.string c.t)/\w'.cell? ⟨w.heap.size+1,3,none⟩=some (.slice c.LA c.ln c.lc)/\w'.cell? ⟨w.heap.size+1,4,none⟩=some (.slice c.DA c.dn c.dc)) w'):=qD fun w' hw=>
    ⟨MZ w' kb (ko+i*25) 38 (aq k) _ (bD RG.out hw HLB.out) KH rfl (by kernel_rfl),(hw.cell (p:=⟨w.heap.size,24,none⟩) D0.out.lt).trans d24,(hw.cell (p:=⟨w.heap.size+1,0,none⟩) D1.out.lt).trans a0,(hw.cell (p:=⟨w.heap.size+1,1,none⟩) D1.out.lt).trans a1,(hw.cell (p:=⟨w.heap.size+1,2,none⟩) D1.out.lt).trans a2,(hw.cell (p:=⟨w.heap.size+1,3,none⟩) D1.out.lt).trans a3,(hw.cell (p:=⟨w.heap.size+1,4,none⟩) D1.out.lt).trans a4⟩
   have B:=qD ((Ju wr.heap.size wr).drewN 1);clear d24 a0 a1 a2 a3 a4;refine Kn ?_;refine Kg (S:=(fun w'=>(Instr.loadAt 38 (.pointer (some ⟨kb,ko+i*25,none⟩))).run prog w'=.ok (.agg (aq k).toArray) w'/\w'.cell? ⟨w.heap.size,24,none⟩=some (.slice (some ⟨kb,ko,none⟩) p.kn p.kc)/\w'.cell? ⟨w.heap.size+1,0,none⟩=some (.int .i64 c.k)/\w'.cell? ⟨w.heap.size+1,1,none⟩=some (.int .i64 c.n)/\w'.cell? ⟨w.heap.size+1,2,none⟩=some (.string c.t)/\w'.cell? ⟨w.heap.size+1,3,none⟩=some (.slice c.LA c.ln c.lc)/\w'.cell? ⟨w.heap.size+1,4,none⟩=some (.slice c.DA c.dn c.dc))) (by kernel_rfl) ?_ (fun hHeld=>?_)
   ·(try dsimp only);exact KS.out _ B.out
   refine rV 0 rfl ?_
   try go_frame
   refine rV 1 rfl ?_
   try go_frame
   refine rV 2 rfl ?_
   try go_frame
   refine rV 3 rfl ?_
   try go_frame
   refine rT (v:=.agg (aq k).toArray) 4 rfl (fun w' hSw=>bL (p:=.pointer (some ⟨kb,ko+i*25,none⟩)) rfl rfl hSw.1) ?_
   try go_frame
   refine rV 5 rfl ?_
   try go_frame
   refine rY 6 rfl fun K hK=>?_;go_simp;refine(IX.out _ B.out).mono ?_;rintro e3 w3 ⟨r,rfl,hR,hb3⟩;replace B:=qD (B.out.Ih hb3);have HR:=qD hR;clear hb3 hR
   (try go_wp2_with fail)
   clear hHeld;refine hK.out _ _ (KS.out _ B.out) fun hHeld=>?_;clear hK K
   try go_frame
   refine rD ?_ _;refine Kq ?_;clear hHeld;cases r
   ·go_wp2_with fail;go_roundw
    ·exact⟨i+1,bs++[false],by omega,by go_num,by rw[rh];rfl,ElRs.snoc HEL.out HXK.out HR.out,HB.out.Ih B.out⟩
    ·simp[intOf];omega
   ·go_wp2_with fail;go_roundw
    ·exact⟨i+1,bs++[true],by omega,by go_num,by rw[rh];go_num,ElRs.snoc HEL.out HXK.out HR.out,HB.out.Ih B.out⟩
    ·simp[intOf];omega
  ·obtain rfl:i=p.kn:=by omega
   have HELF:Hid (gR.ElRs p.kids x bs):=qD (by have:=HEL.out;rwa [KL (by have:=W.out.sr.ln;omega)] at this);go_wp2_with fail;go_ret;exact⟨bs,rfl,HELF.out,DE.out⟩
theorem qa(p:aX)(ih:∀k∈p.kids,Cm k)(x:aC)(c:VC)(w:World)(hw:WP w p)(hv:kS p)(hx:RW w c x)(hok:rf x)(hS:dJ w)(hT:cY w):Calls prog 157 #[aW p,c.val] w (am (fun _=>True) w):=by
 have W:=qD hw.open;have V:=qD hv.open;have HX:=qD hx;have HK:Hid (c.k=x.k):=qD hx.open.k;have hlz:c.ln<=1759218604441:=by have:=hx.open.lsz;unfold aH at this;omega
 have HE:Hid (∀k∈p.kids,∀(y:aC) (u:VC) (wr:World),kS k->cN y x->RW wr u y->Below w.heap.size w wr->Calls prog 38 #[aW k,u.val] wr (am (gR k y) wr)):=qD fun k hk y u wr hvk hy hu hb=>ih k hk y u wr ((W.out.kids k hk).step hb) hvk hu (hok.part hy) (hS.step hb) (hT.step hb);have B0:Hid (aG ((w.alloc (.cells (aD p) 38)).alloc (.cells c.arr 29)) w.heap.size 38 (aD p)):=(aG.Ii rfl).alloc _;have B1:Hid (aG ((w.alloc (.cells (aD p) 38)).alloc (.cells c.arr 29)) (w.heap.size+1) 29 c.arr):=aG.Ii (by simp);have BE:Hid (Below w.heap.size w ((w.alloc (.cells (aD p) 38)).alloc (.cells c.arr 29))):=((Ju _ _).alloc (qL) _).alloc (by simp) _;clear hw hv hx hok hS hT ih;go_enter func157,ntmps157;go_upto_region 1 with fail
 change Code.wp _ _ _ _ ((w.alloc (.cells (aD p) 38)).alloc (.cells c.arr 29));generalize (w.alloc (.cells (aD p) 38)).alloc (.cells c.arr 29)=wa at*;obtain⟨d0,-,-,-,-,d8,-,-⟩:=aR B0.out;obtain⟨a0,a1,a2,a3,a4⟩:=aS.Ig B1.out;simp only[Jw] at a1 a2 a3 a4;by_cases h10:p.op=10
 ·rw[h10] at d0;clear h10;go_wp2_with fail;go_ret;exact am.of trivial BE.out
 by_cases h13:p.op=13
 ·rw[h13] at d0;clear h10 h13;cases h6:(c.k==6)
  all_goals
   go_wp2_with fail;go_ret;exact am.of trivial BE.out
 by_cases h15:p.op=15
 ·have HNE:=qD (V.out.neA (.inl h15));have HVK:=qD (V.out.kidsA (by omega));rw[h15] at d0;clear h10 h13 h15;cases h6:(c.k==6)
  ·go_upto_region 8 with fail
   go_loopw [5] (fun v wr=>v=.int .i64 0/\Below wa.heap.size wa wr) (fun _ _=>0)
   ·exact⟨rfl,Ju _ _⟩
   case round=>
    obtain⟨rfl,hB⟩:=hrel;have HB:=qD hB;have D1:=qD (B1.out.step hB);clear hB d0 d8 a0 a1 a2 a3 a4;obtain⟨a0,a1,a2,a3,a4⟩:=aS.Ig D1.out;simp only[Jw] at a1 a2 a3 a4;go_wp2_with fail;go_ret;exact am.of trivial (BE.out.Ih HB.out)
  ·have HY6:Hid (x.k=6):=by unfold Hid;rw[<-HK.out];simpa using h6
   obtain⟨qs,hqs,hsl⟩:=RV.sl HX.out;have HQS:=qD hqs;have HSL:=qD hsl
   have hk0:0<p.kn:=by
    have:=W.out.sr.ln;have h0:0<p.kids.length:=List.length_pos_iff.2 HNE.out;omega
   obtain⟨kb,ko,k,hA,hb,hxx,hm,hrg⟩:=W.out.sr.row hk0;rw[Ll,MG] at hrg;have HRG:=qD hrg;have HKB:=qD hb;have HKA:=qD hA;have HKM:=qD hm;have k0i:(0:Int)<(p.kn:Int):=by omega
   have hk6:(c.k==6)=true:=h6;clear hqs hsl hxx hrg hb hA hm h6;go_upto_region 8 with fail
   go_loopw [5] (fun v wr=>∃i:Nat,i<=c.ln/\v=.int .i64 i/\Below wa.heap.size wa wr) (fun v _=>c.ln-(intOf v).toNat)
   ·exact⟨0,KD _,rfl,Ju _ _⟩
   case round=>
    obtain⟨i,hi,rfl,hB⟩:=hrel;have HB:=qD hB;have D0:=qD (B0.out.step hB);have D1:=qD (B1.out.step hB);have DE:=qD (BE.out.Ih hB);clear hB d0 d8 a0 a1 a2 a3 a4;obtain⟨-,-,-,-,-,-,-,d24⟩:=aR D0.out;obtain⟨a0,a1,a2,a3,a4⟩:=aS.Ig D1.out;simp only[Jw] at a1 a2 a3 a4;by_cases hlt:i<c.ln
    ·obtain⟨q,hq⟩:∃q,qs[i]?=some q:=⟨_,Jv (by have:=HSL.out.sr.ln;omega)⟩;obtain⟨eb,eo,hLA,heb,hva⟩:=(HSL.out.sr.step DE.out).Iq hq;have HRQ:=qD ((HSL.out.rv q (Jx hq)).step DE.out);have HPT:Hid (cN q.2 x):=qD (.part (io HY6.out (by rw[<-HQS.out];exact Ko (Jx hq))) (.refl _));have HEB:=qD heb;have IX:=qD fun(w':World) (hw:Below wr.heap.size wr w')=>HE.out k HKM.out q.2 q.1 w' (HVK.out k HKM.out) HPT.out (HRQ.out.step hw) (DE.out.Ih hw);have RG:=qD (bD HRG.out DE.out HKB.out);have HLB:Hid (kb<wr.heap.size):=qD (Ka HKB.out DE.out.size);rw[hLA] at a3;rw[HKA.out] at d24;obtain⟨e0,e1,e2,e3,e4⟩:=hva;have i0:(0:Int)<=(i:Int):=by omega
     have i1:(i:Int)<(c.ln:Int):=by omega
     clear hq hLA heb;go_upto_region 10 with fail
     have KS:Hid (∀w',Below wr.heap.size wr w'->(fun w'=>(Instr.loadAt 38 (.pointer (some ⟨kb,ko,none⟩))).run prog w'=.ok (.agg (aq k).toArray) w'/\w'.cell? ⟨w.heap.size,24,none⟩=some (.slice (some ⟨kb,ko,none⟩) p.kn p.kc)/\w'.cell? ⟨w.heap.size+1,3,none⟩=some (.slice (some ⟨eb,eo,none⟩) c.ln c.lc)/\w'.cell? ⟨eb,eo+i*5,none⟩=some (.int .i64 q.1.k)/\w'.cell? ⟨eb,eo+i*5+1,none⟩=some (.int .i64 q.1.n)/\w'.cell? ⟨eb,eo+i*5+2,none⟩=some (.string q.1.t)/\w'.cell? ⟨eb,eo+i*5+3,none⟩=some (.slice q.1.LA q.1.ln q.1.lc)/\w'.cell? ⟨eb,eo+i*5+4,none⟩=some (.slice q.1.DA q.1.dn q.1.dc)) w'):=qD fun w' hw=>
      ⟨MZ w' kb ko 38 (aq k) _ (bD RG.out hw HLB.out) KH rfl (by kernel_rfl),(hw.cell (p:=⟨w.heap.size,24,none⟩) D0.out.lt).trans d24,(hw.cell (p:=⟨w.heap.size+1,3,none⟩) D1.out.lt).trans a3,(hw.cell (p:=⟨eb,eo+i*5,none⟩) HEB.out).trans e0,(hw.cell (p:=⟨eb,eo+i*5+1,none⟩) HEB.out).trans e1,(hw.cell (p:=⟨eb,eo+i*5+2,none⟩) HEB.out).trans e2,(hw.cell (p:=⟨eb,eo+i*5+3,none⟩) HEB.out).trans e3,(hw.cell (p:=⟨eb,eo+i*5+4,none⟩) HEB.out).trans e4⟩
     have B:=qD ((Ju wr.heap.size wr).drewN 1);clear d24 a0 a1 a2 a3 a4 e0 e1 e2 e3 e4;refine Kn ?_;refine Kg (S:=(fun w'=>(Instr.loadAt 38 (.pointer (some ⟨kb,ko,none⟩))).run prog w'=.ok (.agg (aq k).toArray) w'/\w'.cell? ⟨w.heap.size,24,none⟩=some (.slice (some ⟨kb,ko,none⟩) p.kn p.kc)/\w'.cell? ⟨w.heap.size+1,3,none⟩=some (.slice (some ⟨eb,eo,none⟩) c.ln c.lc)/\w'.cell? ⟨eb,eo+i*5,none⟩=some (.int .i64 q.1.k)/\w'.cell? ⟨eb,eo+i*5+1,none⟩=some (.int .i64 q.1.n)/\w'.cell? ⟨eb,eo+i*5+2,none⟩=some (.string q.1.t)/\w'.cell? ⟨eb,eo+i*5+3,none⟩=some (.slice q.1.LA q.1.ln q.1.lc)/\w'.cell? ⟨eb,eo+i*5+4,none⟩=some (.slice q.1.DA q.1.dn q.1.dc))) (by kernel_rfl) ?_ (fun hHeld=>?_)
     ·(try dsimp only);exact KS.out _ B.out
     refine rV 0 rfl ?_
     try go_frame
     refine rV 1 rfl ?_
     try go_frame
     refine rV 2 rfl ?_
     try go_frame
     refine rT (v:=.agg (aq k).toArray) 3 rfl (fun w' hSw=>bL (p:=.pointer (some ⟨kb,ko,none⟩)) rfl rfl hSw.1) ?_
     try go_frame
     refine rV 4 rfl ?_
     try go_frame
     refine rV 5 rfl ?_
     try go_frame
     refine rV 6 rfl ?_
     try go_frame
     refine rV 7 rfl ?_
     try go_frame
     refine rV 8 rfl ?_
     try go_frame
     refine rY 9 rfl fun K hK=>?_;go_simp;refine(IX.out _ B.out).mono ?_;rintro e3 w3 ⟨r,rfl,_,hb3⟩;replace B:=qD (B.out.Ih hb3);clear hb3
     (try go_wp2_with fail)
     clear hHeld;refine hK.out _ _ (KS.out _ B.out) fun hHeld=>?_;clear hK K
     try go_frame
     refine rD ?_ _;refine Kq ?_;clear hHeld;cases r
     ·go_wp2_with fail;go_roundw
      ·exact⟨i+1,by omega,by go_num,HB.out.Ih B.out⟩
      ·simp[intOf];omega
     ·go_wp2_with fail;go_ret;exact am.of trivial (DE.out.Ih B.out)
    ·obtain rfl:i=c.ln:=by omega
     go_wp2_with fail;go_ret;exact am.of trivial DE.out
 ·go_wp2_with fail;go_ret;exact am.of trivial BE.out
def fO(p:aX)(x:aC)(b:Bool):Prop:=(p.op=11->b=(cj x p.path.xs).any fun z=>z.k==p.n)/\(p.op=16->b=(cj x p.path.xs).any fun z=>z.k==4&&iE z.t p.arg.2.t)
theorem fO.any{p:aX}{x:aC}{b:Bool}(h:p.op=10\/p.op=13\/p.op=15):fO p x b:=⟨fun e=>by omega,fun e=>by omega⟩
def ri(p:aX)(ps:List PV)(i:Nat):Prop:=(p.op=11->(ps.take i).any (fun z=>z.2.k==p.n)=false)/\(p.op=16->(ps.take i).any (fun z=>z.2.k==4&&iE z.2.t p.arg.2.t)=false)
theorem ri.next{p:aX}{ps:List PV}{i:Nat}{q:PV}(h:ri p ps i)(hq:ps[i]?=some q)(hr:fN p q.2 false):ri p ps (i+1):=by
 refine⟨fun e=>?_,fun e=>?_⟩
 ·rw[gC hq,h.1 e,<-hr.1 e];rfl
 ·rw[gC hq,h.2 e,<-hr.2 e];rfl
theorem fO.hit{p:aX}{x:aC}{ps:List PV}{i:Nat}{q:PV}(hf:ps.map Prod.snd=cj x p.path.xs)(hq:ps[i]?=some q)(hr:fN p q.2 true):fO p x true:=by
 refine⟨fun e=>?_,fun e=>?_⟩
 ·rw[<-iP hf fun z=>z.k==p.n];exact(jN (f:=fun z:PV=>z.2.k==p.n) hq (hr.1 e).symm).symm
 ·rw[<-iP hf fun z=>z.k==4&&iE z.t p.arg.2.t];exact(jN (f:=fun z:PV=>z.2.k==4&&iE z.2.t p.arg.2.t) hq (hr.2 e).symm).symm
theorem fO.no{p:aX}{x:aC}{ps:List PV}{i:Nat}(hf:ps.map Prod.snd=cj x p.path.xs)(hl:ps.length<=i)(h:ri p ps i):fO p x false:=by
 refine⟨fun e=>?_,fun e=>?_⟩
 ·have:=h.1 e;rw[KL hl] at this;rw[<-iP hf fun z=>z.k==p.n];exact this.symm
 ·have:=h.2 e;rw[KL hl] at this;rw[<-iP hf fun z=>z.k==4&&iE z.t p.arg.2.t];exact this.symm
theorem xm(p:aX)(ih:∀k∈p.kids,Cm k)(x:aC)(c:VC)(w:World)(hw:WP w p)(hv:kS p)(hx:RW w c x)(hok:rf x)(hS:dJ w)(hT:cY w)(hl:p.path.xs.length<=16):Calls prog 103 #[aW p,c.val] w (am (fO p x) w):=by
 have HRE:Hid (∀(y:aC) (u:VC) (wr:World),RW wr u y->rf y->Below w.heap.size w wr->Calls prog 157 #[aW p,u.val] wr (am (fun _=>True) wr)):=qD fun y u wr hu hy hb=>qa p ih y u wr (hw.step hb) hv hu hy (hS.step hb) (hT.step hb);have HLE:Hid (∀(y:aC) (u:VC) (wr:World),RW wr u y->rf y->Below w.heap.size w wr->Calls prog 158 #[aW p,u.val] wr (am (fN p y) wr)):=qD fun y u wr hu hy hb=>xh p y u wr (hw.step hb) hv hu (hS.step hb) (hy.text y (.refl y));have W:=qD hw.open;have B0:Hid (aG ((w.alloc (.cells (aD p) 38)).alloc (.cells c.arr 29)) w.heap.size 38 (aD p)):=(aG.Ii rfl).alloc _;have B1:Hid (aG ((w.alloc (.cells (aD p) 38)).alloc (.cells c.arr 29)) (w.heap.size+1) 29 c.arr):=aG.Ii (by simp);have BE:Hid (Below w.heap.size w ((w.alloc (.cells (aD p) 38)).alloc (.cells c.arr 29))):=((Ju _ _).alloc (qL) _).alloc (by simp) _;have HX:Hid (RV (fun b=>b<w.heap.size) w c x):=qD (hx.lt.mono fun b hb=>hb.2);have HOK:=qD hok;have HLL:=qD hl;have HK2:Hid (x.size*2^p.path.xs.length<=67108864):=qD (Li hok.size (MA (n:=2) (by omega) hl));clear hw hx hok hl hv hS hT ih;go_enter func103,ntmps103;go_upto_region 1 with fail
 change Code.wp _ _ _ _ ((w.alloc (.cells (aD p) 38)).alloc (.cells c.arr 29));generalize (w.alloc (.cells (aD p) 38)).alloc (.cells c.arr 29)=wa at*;obtain⟨d0,d1,-,-,-,-,-,-⟩:=aR B0.out;obtain⟨a0,a1,a2,a3,a4⟩:=aS.Ig B1.out;simp only[Jw] at a1 a2 a3 a4;by_cases ho:p.op=10\/p.op=13\/p.op=15
 ·have HO:=qD ho;have HLV:=qD (nL x (fun b=>b<w.heap.size) p.path.xs c p.path.A p.path.n p.path.c wa (fun b hb=>Ka hb BE.out.size) (HX.out.keep fun b hb=>BE.out.block b hb) (W.out.path.step BE.out) (KM HK2.out (by decide)));rcases ho with ho|ho|ho
  all_goals
   rw[ho] at d0;clear ho;go_upto_region 3 with(go_at_call 137;refine HLV.out.mono ?_;rintro e w1 ⟨A1,M,c1,ps,rfl,hsr,hlf,hM,hb⟩;have HSR:=qD hsr;have HLF:=qD hlf;have HM:Hid (M<=68719476736):=qD (KM hM (KM HK2.out (by decide)));have C0:=qD (B0.out.step hb);have CB:=qD hb;clear hsr hlf hM hb)
   clear d0 d1 a0 a1 a2 a3 a4 HLV;have hM:M<=68719476736:=HM.out;go_upto_region 4 with fail
   go_loopw [6] (fun v wr=>∃i:Nat,i<=M/\v=.int .i64 i/\Below w1.heap.size w1 wr) (fun v _=>M-(intOf v).toNat)
   ·exact⟨0,KD _,rfl,Ju _ _⟩
   case round=>
    obtain⟨i,hi,rfl,hB⟩:=hrel;have HB:=qD hB;have D0:=qD (C0.out.step hB);have DE:=qD (BE.out.Ih (CB.out.Ih hB));clear hB;by_cases hlt:i<M
    ·obtain⟨q,hq⟩:∃q,ps[i]?=some q:=⟨_,Jv (by have:=HSR.out.ln;omega)⟩;obtain⟨eb,eo,hLA,heb,hva⟩:=(HSR.out.step HB.out).Iq hq;have HRQ:=qD (((HLF.out.rv q (Jx hq)).step (CB.out.Ih HB.out)).mono fun _ _=>trivial);have HOQ:=qD (HOK.out.leaf (HLF.out.sub q (Jx hq)));have HEB:=qD heb;have HPQ:=qD hq;have IX:=qD fun(w':World) (hw:Below wr.heap.size wr w')=>HRE.out q.2 q.1 w' (HRQ.out.step hw) HOQ.out (DE.out.Ih hw);subst hLA;obtain⟨e0,e1,e2,e3,e4⟩:=hva;have i0:(0:Int)<=(i:Int):=by omega
     have i1:(i:Int)<(M:Int):=by omega
     clear hq heb;go_upto_region 6 with fail
     have KS:Hid (∀w',Below wr.heap.size wr w'->(fun w'=>(Instr.loadAt 38 (.pointer (some ⟨w.heap.size,0,none⟩))).run prog w'=.ok (aW p) w'/\w'.cell? ⟨eb,eo+i*5,none⟩=some (.int .i64 q.1.k)/\w'.cell? ⟨eb,eo+i*5+1,none⟩=some (.int .i64 q.1.n)/\w'.cell? ⟨eb,eo+i*5+2,none⟩=some (.string q.1.t)/\w'.cell? ⟨eb,eo+i*5+3,none⟩=some (.slice q.1.LA q.1.ln q.1.lc)/\w'.cell? ⟨eb,eo+i*5+4,none⟩=some (.slice q.1.DA q.1.dn q.1.dc)) w'):=qD fun w' hw=>
      ⟨ff (aD p) rfl _ _ (D0.out.step hw),(hw.cell (p:=⟨eb,eo+i*5,none⟩) HEB.out).trans e0,(hw.cell (p:=⟨eb,eo+i*5+1,none⟩) HEB.out).trans e1,(hw.cell (p:=⟨eb,eo+i*5+2,none⟩) HEB.out).trans e2,(hw.cell (p:=⟨eb,eo+i*5+3,none⟩) HEB.out).trans e3,(hw.cell (p:=⟨eb,eo+i*5+4,none⟩) HEB.out).trans e4⟩
     have B:=qD ((Ju wr.heap.size wr).drewN 1);clear e0 e1 e2 e3 e4;refine Kn ?_;refine Kg (S:=(fun w'=>(Instr.loadAt 38 (.pointer (some ⟨w.heap.size,0,none⟩))).run prog w'=.ok (aW p) w'/\w'.cell? ⟨eb,eo+i*5,none⟩=some (.int .i64 q.1.k)/\w'.cell? ⟨eb,eo+i*5+1,none⟩=some (.int .i64 q.1.n)/\w'.cell? ⟨eb,eo+i*5+2,none⟩=some (.string q.1.t)/\w'.cell? ⟨eb,eo+i*5+3,none⟩=some (.slice q.1.LA q.1.ln q.1.lc)/\w'.cell? ⟨eb,eo+i*5+4,none⟩=some (.slice q.1.DA q.1.dn q.1.dc))) (by kernel_rfl) ?_ (fun hHeld=>?_)
     ·(try dsimp only);exact KS.out _ B.out
     refine rT (v:=aW p) 0 rfl (fun w' hSw=>bL (p:=.pointer (some ⟨w.heap.size,0,none⟩)) rfl rfl hSw.1) ?_
     try go_frame
     refine rV 1 rfl ?_
     try go_frame
     refine rV 2 rfl ?_
     try go_frame
     refine rV 3 rfl ?_
     try go_frame
     refine rV 4 rfl ?_
     try go_frame
     refine rY 5 rfl fun K hK=>?_;go_simp;refine(IX.out _ B.out).mono ?_;rintro e3 w3 ⟨r,rfl,hr,hb3⟩;have HR:=qD hr;replace B:=qD (B.out.Ih hb3);clear hb3 hr
     (try go_wp2_with fail)
     clear hHeld;refine hK.out _ _ (KS.out _ B.out) fun hHeld=>?_;clear hK K
     try go_frame
     refine rD ?_ _;refine Kq ?_;clear hHeld;cases r
     ·go_wp2_with fail;go_roundw
      ·exact⟨i+1,by omega,by go_num,HB.out.Ih B.out⟩
      ·simp[intOf];omega
     ·go_wp2_with fail;go_ret;exact am.of (fO.any HO.out) (DE.out.Ih B.out)
    ·obtain rfl:i=M:=by omega
     go_wp2_with fail;go_ret;exact am.of (fO.any HO.out) DE.out
 ·have h1:(p.op==10)=false:=by simp;omega
  have h2:(p.op==13)=false:=by simp;omega
  have h3:(p.op==15)=false:=by simp;omega
  have HLV:=qD (lh x (fun b=>b<w.heap.size) p.path.xs c p.path.A p.path.n p.path.c wa (fun b hb=>Ka hb BE.out.size) (HX.out.keep fun b hb=>BE.out.block b hb) (W.out.path.step BE.out) HOK.out.size HLL.out);clear ho;go_upto_region 10 with(go_at_call 100;refine HLV.out.mono ?_;rintro e w1 ⟨A1,M,c1,ps,rfl,hsr,hlf,hM,hb⟩;have HSR:=qD hsr;have HLF:=qD hlf;have HM:=qD hM;have C0:=qD (B0.out.step hb);have CB:=qD hb;clear hsr hlf hM hb)
  clear d0 d1 a0 a1 a2 a3 a4 HLV;have hM:M<=68719476736:=HM.out;go_upto_region 11 with fail
  go_loopw [8] (fun v wr=>∃i:Nat,i<=M/\v=.int .i64 i/\ri p ps i/\Below w1.heap.size w1 wr) (fun v _=>M-(intOf v).toNat)
  ·exact⟨0,KD _,rfl,⟨fun _=>by simp,fun _=>by simp⟩,Ju _ _⟩
  case round=>
   obtain⟨i,hi,rfl,hsi,hB⟩:=hrel;have HB:=qD hB;have HSI:=qD hsi;clear hsi;have D0:=qD (C0.out.step hB);have DE:=qD (BE.out.Ih (CB.out.Ih hB));clear hB;by_cases hlt:i<M
   ·obtain⟨q,hq⟩:∃q,ps[i]?=some q:=⟨_,Jv (by have:=HSR.out.ln;omega)⟩;obtain⟨eb,eo,hLA,heb,hva⟩:=(HSR.out.step HB.out).Iq hq;have HRQ:=qD (((HLF.out.rv q (Jx hq)).step (CB.out.Ih HB.out)).mono fun _ _=>trivial);have HOQ:=qD (HOK.out.leaf (HLF.out.sub q (Jx hq)));have HEB:=qD heb;have HPQ:=qD hq;have IX:=qD fun(w':World) (hw:Below wr.heap.size wr w')=>HLE.out q.2 q.1 w' (HRQ.out.step hw) HOQ.out (DE.out.Ih hw);subst hLA;obtain⟨e0,e1,e2,e3,e4⟩:=hva;have i0:(0:Int)<=(i:Int):=by omega
    have i1:(i:Int)<(M:Int):=by omega
    clear hq heb;go_upto_region 13 with fail
    have KS:Hid (∀w',Below wr.heap.size wr w'->(fun w'=>(Instr.loadAt 38 (.pointer (some ⟨w.heap.size,0,none⟩))).run prog w'=.ok (aW p) w'/\w'.cell? ⟨eb,eo+i*5,none⟩=some (.int .i64 q.1.k)/\w'.cell? ⟨eb,eo+i*5+1,none⟩=some (.int .i64 q.1.n)/\w'.cell? ⟨eb,eo+i*5+2,none⟩=some (.string q.1.t)/\w'.cell? ⟨eb,eo+i*5+3,none⟩=some (.slice q.1.LA q.1.ln q.1.lc)/\w'.cell? ⟨eb,eo+i*5+4,none⟩=some (.slice q.1.DA q.1.dn q.1.dc)) w'):=qD fun w' hw=>
     ⟨ff (aD p) rfl _ _ (D0.out.step hw),(hw.cell (p:=⟨eb,eo+i*5,none⟩) HEB.out).trans e0,(hw.cell (p:=⟨eb,eo+i*5+1,none⟩) HEB.out).trans e1,(hw.cell (p:=⟨eb,eo+i*5+2,none⟩) HEB.out).trans e2,(hw.cell (p:=⟨eb,eo+i*5+3,none⟩) HEB.out).trans e3,(hw.cell (p:=⟨eb,eo+i*5+4,none⟩) HEB.out).trans e4⟩
    have B:=qD ((Ju wr.heap.size wr).drewN 1);clear e0 e1 e2 e3 e4;refine Kn ?_;refine Kg (S:=(fun w'=>(Instr.loadAt 38 (.pointer (some ⟨w.heap.size,0,none⟩))).run prog w'=.ok (aW p) w'/\w'.cell? ⟨eb,eo+i*5,none⟩=some (.int .i64 q.1.k)/\w'.cell? ⟨eb,eo+i*5+1,none⟩=some (.int .i64 q.1.n)/\w'.cell? ⟨eb,eo+i*5+2,none⟩=some (.string q.1.t)/\w'.cell? ⟨eb,eo+i*5+3,none⟩=some (.slice q.1.LA q.1.ln q.1.lc)/\w'.cell? ⟨eb,eo+i*5+4,none⟩=some (.slice q.1.DA q.1.dn q.1.dc))) (by kernel_rfl) ?_ (fun hHeld=>?_)
    ·(try dsimp only);exact KS.out _ B.out
    refine rT (v:=aW p) 0 rfl (fun w' hSw=>bL (p:=.pointer (some ⟨w.heap.size,0,none⟩)) rfl rfl hSw.1) ?_
    try go_frame
    refine rV 1 rfl ?_
    try go_frame
    refine rV 2 rfl ?_
    try go_frame
    refine rV 3 rfl ?_
    try go_frame
    refine rV 4 rfl ?_
    try go_frame
    refine rY 5 rfl fun K hK=>?_;go_simp;refine(IX.out _ B.out).mono ?_;rintro e3 w3 ⟨r,rfl,hr,hb3⟩;have HR:=qD hr;replace B:=qD (B.out.Ih hb3);clear hb3 hr
    (try go_wp2_with fail)
    clear hHeld;refine hK.out _ _ (KS.out _ B.out) fun hHeld=>?_;clear hK K
    try go_frame
    refine rD ?_ _;refine Kq ?_;clear hHeld;cases r
    ·go_wp2_with fail;go_roundw
     ·exact⟨i+1,by omega,by go_num,ri.next HSI.out HPQ.out HR.out,HB.out.Ih B.out⟩
     ·simp[intOf];omega
    ·go_wp2_with fail;go_ret;exact am.of (fO.hit HLF.out.fn HPQ.out HR.out) (DE.out.Ih B.out)
   ·obtain rfl:i=M:=by omega
    go_wp2_with fail;go_ret;exact am.of (fO.no HLF.out.fn (by have:=HSR.out.ln;omega) HSI.out) DE.out
def Cn:Prop:=∀(e:dI) (x:aC) (c:VC) (w:World),WX w e->RW w c x->rf x->cY w->Calls prog 106 #[.agg (dO e).toArray,c.val] w fun en w'=>∃d:VC,en=.returned d.val/\Below w.heap.size w w'
section
variable {p:aX} {x:aC} {b:Bool}
theorem mj.JR(h:p.op=2)(e:b=(cj x p.path.xs).any (iu p.arg.2)):mj p x b:=⟨fun _=>e,fun k=>by omega,fun k=>by omega,fun k=>by omega,fun k=>by omega,fun k=>by omega,fun k=>by omega⟩
theorem mj.Jr(h:p.op=4\/p.op=5\/p.op=6\/p.op=7)(e:b=(cj x p.path.xs).any (gD p.op p.arg.2)):mj p x b:=⟨fun k=>by omega,fun _=>e,fun k=>by omega,fun k=>by omega,fun k=>by omega,fun k=>by omega,fun k=>by omega⟩
theorem AQ(h:p.args.xs.length=p.args.n):decide (0<kW p x p.args.n)=p.args.xs.any fun a=>pf x p.path.xs a.2:=by
 unfold kW;rw[KL (by omega),Kc,Lw];constructor
 ·intro h0;have h1:0<(p.args.xs.filter fun a=>pf x p.path.xs a.2).length:=by omega
  obtain⟨a,ha⟩:=List.exists_mem_of_length_pos h1;obtain⟨h2,h3⟩:=MV.1 ha;exact LW.2 ⟨a,h2,h3⟩
 ·intro h0;obtain⟨a,h2,h3⟩:=LW.1 h0;have:=List.length_pos_of_mem ((MV (p:=fun a:PV=>pf x p.path.xs a.2)).2 ⟨h2,h3⟩);omega
theorem mj.Js(h:p.op=8)(hl:p.args.xs.length=p.args.n):mj p x (decide (0<kW p x p.args.n)):=⟨fun k=>by omega,fun k=>by omega,fun _=>AQ hl,fun k=>by omega,fun k=>by omega,fun k=>by omega,fun k=>by omega⟩
theorem Co:∀bs:List Bool,(kX bs=bs.length↔bs.all id=true):=by
 intro bs
 induction bs with
 | nil=>simp[kX]
 | cons a r ih=>
  have:=yw r;cases a
  ·simp[kX] at this ⊢;omega
  ·simp only[kX,List.filter_cons,id,Oh,Ks,OU,Mt] at ih ⊢;rw[<-ih];omega
theorem Cp:∀bs:List Bool,(0<kX bs↔bs.any id=true):=by
 intro bs
 induction bs with
 | nil=>simp[kX]
 | cons a r ih=>
  cases a
  ·exact ih
  ·simp[kX]
theorem mj.Jl{bs:List Bool}{n:Nat}(h:p.op=20)(hb:gR.ElRs p.kids x bs)(hn:p.kids.length=n):mj p x ((kX bs:Int)==(n:Int)):=⟨fun k=>by omega,fun k=>by omega,fun k=>by omega,fun k=>by omega,fun k=>by omega,fun _=>⟨bs,hb,by
 rw[Kc,<-Co,ElRs.len hb,hn,MS]
 omega⟩,fun k=>by omega⟩
theorem mj.Jm{bs:List Bool}(h:p.op=21)(hb:gR.ElRs p.kids x bs):mj p x (decide (0<kX bs)):=⟨fun k=>by omega,fun k=>by omega,fun k=>by omega,fun k=>by omega,fun k=>by omega,fun k=>by omega,fun _=>⟨bs,hb,by
 rw[Kc,<-Cp,Lw]⟩⟩
theorem mj.some(h2:p.op≠2)(h4:¬(p.op=4\/p.op=5\/p.op=6\/p.op=7))(h8:p.op≠8)(h20:p.op≠20)(h21:p.op≠21)(h:fO p x b):mj p x b:=⟨fun k=>absurd k h2,fun k=>absurd k h4,fun k=>absurd k h8,h.1,h.2,fun k=>absurd k h20,fun k=>absurd k h21⟩
end
theorem Cq(H8:Cn):∀p,Cm p:=by
 intro p
 induction p using aX.ind with
 | h p ih=>
 intro x c w hw hv hx hok hS hT;have W:=qD hw.open;have V:=qD hv.open;have HX:=qD hx;have HOK:=qD hok;have HKL:Hid (p.kids.length=p.kn):=qD hw.open.sr.ln.symm;have HAL:Hid (p.args.xs.length=p.args.n):=qD hw.open.args.sr.ln.symm;have B0:Hid (aG ((w.alloc (.cells (aD p) 38)).alloc (.cells c.arr 29)) w.heap.size 38 (aD p)):=(aG.Ii rfl).alloc _;have B1:Hid (aG ((w.alloc (.cells (aD p) 38)).alloc (.cells c.arr 29)) (w.heap.size+1) 29 c.arr):=aG.Ii (by simp);have BE:Hid (Below w.heap.size w ((w.alloc (.cells (aD p) 38)).alloc (.cells c.arr 29))):=((Ju _ _).alloc (qL) _).alloc (by simp) _;have HAR:Hid (RW w p.arg.1 p.arg.2):=qD hw.open.arg;have HEV:Hid (∀wr,Below w.heap.size w wr->Calls prog 106 #[.agg (dO p.ex).toArray,c.val] wr fun en w'=>∃d:VC,en=.returned d.val/\Below wr.heap.size wr w'):=qD fun wr hb=>H8 p.ex x c wr (hw.open.ex.step hb) (hx.step hb) hok (hT.step hb);have HKD0:Hid (p.op≠24->∀wr,Below w.heap.size w wr->Calls prog 104 #[aW p,c.val] wr fun e w'=>∃bs,e=.returned (.int .i64 (kX bs:Nat))/\gR.ElRs p.kids x bs/\Below wr.heap.size wr w'):=qD fun h wr hb=>xl p ih x c wr (hw.step hb) (hv.open.kidsA h) (hx.step hb) hok (hS.step hb) (hT.step hb);have HAG0:Hid (2<=p.op/\p.op<=19->∀wr,Below w.heap.size w wr->Calls prog 102 #[aW p,c.val] wr fun e w'=>e=.returned (.int .i64 (kW p x p.args.n:Nat))/\Below wr.heap.size wr w'):=qD fun h wr hb=>xj p x c wr (hw.step hb) (hx.step hb) hok (hv.open.pathA h)
 have HSM0:Hid (2<=p.op/\p.op<=19->∀wr,Below w.heap.size w wr->Calls prog 103 #[aW p,c.val] wr (am (fO p x) wr)):=qD fun h wr hb=>xm p ih x c wr (hw.step hb) hv (hx.step hb) hok (hS.step hb) (hT.step hb) (hv.open.pathA h);have HLV0:Hid (2<=p.op/\p.op<=19->∀wr,Below w.heap.size w wr->Calls prog 100 #[c.val,.slice p.path.A p.path.n p.path.c] wr (sj (fun b=>b<w.heap.size) x (cj x p.path.xs) 68719476736 wr)):=qD fun h wr hb=>lh x (fun b=>b<w.heap.size) p.path.xs c p.path.A p.path.n p.path.c wr (fun b hl=>Ka hl hb.size) ((hx.lt.mono fun b hl=>hl.2).keep fun b hl=>hb.block b hl) (hw.open.path.step hb) hok.size (hv.open.pathA h);clear hw hv hx hok hS hT ih;go_enter func38,ntmps38;go_upto_region 1 with fail
 change Code.wp _ _ _ _ ((w.alloc (.cells (aD p) 38)).alloc (.cells c.arr 29));generalize (w.alloc (.cells (aD p) 38)).alloc (.cells c.arr 29)=wa at*
 have KS:Hid (∀w',Below wa.heap.size wa w'->(fun w'=>(Instr.loadAt 29 (.pointer (some ⟨w.heap.size,2,none⟩))).run prog w'=.ok (.agg p.arg.1.list.toArray) w'/\(Instr.loadAt 38 (.pointer (some ⟨w.heap.size,0,none⟩))).run prog w'=.ok (aW p) w'/\(w'.cell? ⟨w.heap.size,0,none⟩=some (.int .i64 p.op)/\w'.cell? ⟨w.heap.size,1,none⟩=some (.slice p.path.A p.path.n p.path.c)/\w'.cell? ⟨w.heap.size,7,none⟩=some (.slice p.args.A p.args.n p.args.c)/\w'.cell? ⟨w.heap.size,8,none⟩=some (.int .i64 p.n)/\w'.cell? ⟨w.heap.size,24,none⟩=some (.slice p.kA p.kn p.kc))/\w'.cell? ⟨w.heap.size+1,0,none⟩=some (.int .i64 c.k)/\w'.cell? ⟨w.heap.size+1,1,none⟩=some (.int .i64 c.n)/\w'.cell? ⟨w.heap.size+1,2,none⟩=some (.string c.t)/\w'.cell? ⟨w.heap.size+1,3,none⟩=some (.slice c.LA c.ln c.lc)/\w'.cell? ⟨w.heap.size+1,4,none⟩=some (.slice c.DA c.dn c.dc)) w'):=qD fun w' hb=>by
  have C0:=B0.out.step hb;obtain⟨d0,d1,-,-,d7,d8,-,d24⟩:=aR C0;obtain⟨a0,a1,a2,a3,a4⟩:=aS.Ig (B1.out.step hb);simp only[Jw] at a1 a2 a3 a4;exact⟨MZ w' w.heap.size 2 29 p.arg.1.list _ (bV C0) LU rfl (by kernel_rfl),ff (aD p) rfl _ _ C0,⟨d0,d1,d7,d8,d24⟩,a0,a1,a2,a3,a4⟩
 obtain⟨d0,d1,-,-,d7,d8,-,d24⟩:=aR B0.out;obtain⟨a0,a1,a2,a3,a4⟩:=aS.Ig B1.out;simp only[Jw] at a1 a2 a3 a4;by_cases h1:p.op=1
 ·have HO:=qD h1;rw[h1] at d0;clear h1;go_wp2_with fail;go_ret;exact am.of (gR.any (by have:=HO.out;omega) (by have:=HO.out;omega) (by have:=HO.out;omega)) BE.out
 by_cases h2:p.op=2
 ·have HO:=qD h2;have HLV:=qD fun(wr:World) (hb:Below wa.heap.size wa wr)=>HLV0.out (by omega) wr (BE.out.Ih hb);rw[h2] at d0;clear h2;go_upto_region 5 with fail
  have B:=qD ((Ju wa.heap.size wa).drewN 1);refine Kn ?_;refine Kg (S:=(fun w'=>(Instr.loadAt 29 (.pointer (some ⟨w.heap.size,2,none⟩))).run prog w'=.ok (.agg p.arg.1.list.toArray) w'/\(Instr.loadAt 38 (.pointer (some ⟨w.heap.size,0,none⟩))).run prog w'=.ok (aW p) w'/\(w'.cell? ⟨w.heap.size,0,none⟩=some (.int .i64 p.op)/\w'.cell? ⟨w.heap.size,1,none⟩=some (.slice p.path.A p.path.n p.path.c)/\w'.cell? ⟨w.heap.size,7,none⟩=some (.slice p.args.A p.args.n p.args.c)/\w'.cell? ⟨w.heap.size,8,none⟩=some (.int .i64 p.n)/\w'.cell? ⟨w.heap.size,24,none⟩=some (.slice p.kA p.kn p.kc))/\w'.cell? ⟨w.heap.size+1,0,none⟩=some (.int .i64 c.k)/\w'.cell? ⟨w.heap.size+1,1,none⟩=some (.int .i64 c.n)/\w'.cell? ⟨w.heap.size+1,2,none⟩=some (.string c.t)/\w'.cell? ⟨w.heap.size+1,3,none⟩=some (.slice c.LA c.ln c.lc)/\w'.cell? ⟨w.heap.size+1,4,none⟩=some (.slice c.DA c.dn c.dc))) (by kernel_rfl) ?_ (fun hHeld=>?_)
  ·(try dsimp only);exact KS.out _ B.out
  refine rV 0 rfl ?_
  try go_frame
  refine rV 1 rfl ?_
  try go_frame
  refine rV 2 rfl ?_
  try go_frame
  refine rV 4 rfl ?_
  try go_frame
  refine rT (v:=.agg p.arg.1.list.toArray) 5 rfl (fun w' hSw=>bL (p:=.pointer (some ⟨w.heap.size,2,none⟩)) rfl rfl hSw.1) ?_
  try go_frame
  refine rY 3 rfl fun K hK=>?_;go_simp;refine(HLV.out _ B.out).mono ?_;rintro e3 w3 ⟨A1,M,c1,ps,rfl,hsr,hlf,hM,hb3⟩;have HSR:=qD hsr;have HLF:=qD hlf.fn;have HRV:Hid (∀q∈ps,RW w3 q.1 q.2):=qD fun q hq=>((hlf.rv q hq).step hb3).mono fun _ _=>trivial;have HM:=qD hM;replace B:=qD (B.out.Ih hb3);clear hsr hlf hM hb3
  (try go_wp2_with fail)
  clear hHeld;refine hK.out _ _ (KS.out _ B.out) fun hHeld=>?_;clear hK K
  try go_frame
  refine rY 6 rfl fun K hK=>?_;go_simp;refine(kM ps p.arg.2 p.arg.1 A1 M c1 _ HSR.out HRV.out (HAR.out.step (BE.out.Ih B.out)) HM.out).mono ?_;rintro e4 w4 ⟨rfl,hb4⟩;rw[iP HLF.out (iu p.arg.2)];replace B:=qD (B.out.Ih hb4);clear hb4
  (try go_wp2_with fail)
  clear hHeld;refine hK.out _ _ (KS.out _ B.out) fun hHeld=>?_;clear hK K
  try go_frame
  refine rV 7 rfl ?_
  try go_frame
  refine rD ?_ _;refine Kq ?_;clear hHeld
  all_goals
   go_wp2_with fail;go_ret;exact am.of (mj.shut (mj.JR HO.out rfl)) (BE.out.Ih B.out)
 by_cases h3:p.op=3
 ·have HO:=qD h3;have HLV:=qD fun(wr:World) (hb:Below wa.heap.size wa wr)=>HLV0.out (by omega) wr (BE.out.Ih hb);rw[h3] at d0;clear h3;go_upto_region 7 with fail
  have B:=qD ((Ju wa.heap.size wa).drewN 1);refine Kn ?_;refine Kg (S:=(fun w'=>(Instr.loadAt 29 (.pointer (some ⟨w.heap.size,2,none⟩))).run prog w'=.ok (.agg p.arg.1.list.toArray) w'/\(Instr.loadAt 38 (.pointer (some ⟨w.heap.size,0,none⟩))).run prog w'=.ok (aW p) w'/\(w'.cell? ⟨w.heap.size,0,none⟩=some (.int .i64 p.op)/\w'.cell? ⟨w.heap.size,1,none⟩=some (.slice p.path.A p.path.n p.path.c)/\w'.cell? ⟨w.heap.size,7,none⟩=some (.slice p.args.A p.args.n p.args.c)/\w'.cell? ⟨w.heap.size,8,none⟩=some (.int .i64 p.n)/\w'.cell? ⟨w.heap.size,24,none⟩=some (.slice p.kA p.kn p.kc))/\w'.cell? ⟨w.heap.size+1,0,none⟩=some (.int .i64 c.k)/\w'.cell? ⟨w.heap.size+1,1,none⟩=some (.int .i64 c.n)/\w'.cell? ⟨w.heap.size+1,2,none⟩=some (.string c.t)/\w'.cell? ⟨w.heap.size+1,3,none⟩=some (.slice c.LA c.ln c.lc)/\w'.cell? ⟨w.heap.size+1,4,none⟩=some (.slice c.DA c.dn c.dc))) (by kernel_rfl) ?_ (fun hHeld=>?_)
  ·(try dsimp only);exact KS.out _ B.out
  refine rV 0 rfl ?_
  try go_frame
  refine rV 1 rfl ?_
  try go_frame
  refine rV 2 rfl ?_
  try go_frame
  refine rV 4 rfl ?_
  try go_frame
  refine rT (v:=.agg p.arg.1.list.toArray) 5 rfl (fun w' hSw=>bL (p:=.pointer (some ⟨w.heap.size,2,none⟩)) rfl rfl hSw.1) ?_
  try go_frame
  refine rY 3 rfl fun K hK=>?_;go_simp;refine(HLV.out _ B.out).mono ?_;rintro e3 w3 ⟨A1,M,c1,ps,rfl,hsr,hlf,hM,hb3⟩;have HSR:=qD hsr;have HLF:=qD hlf.fn;have HRV:Hid (∀q∈ps,RW w3 q.1 q.2):=qD fun q hq=>((hlf.rv q hq).step hb3).mono fun _ _=>trivial;have HM:=qD hM;replace B:=qD (B.out.Ih hb3);clear hsr hlf hM hb3
  (try go_wp2_with fail)
  clear hHeld;refine hK.out _ _ (KS.out _ B.out) fun hHeld=>?_;clear hK K
  try go_frame
  refine rY 6 rfl fun K hK=>?_;go_simp;refine(kM ps p.arg.2 p.arg.1 A1 M c1 _ HSR.out HRV.out (HAR.out.step (BE.out.Ih B.out)) HM.out).mono ?_;rintro e4 w4 ⟨rfl,hb4⟩;rw[iP HLF.out (iu p.arg.2)];replace B:=qD (B.out.Ih hb4);clear hb4
  (try go_wp2_with fail)
  clear hHeld;refine hK.out _ _ (KS.out _ B.out) fun hHeld=>?_;clear hK K
  try go_frame
  refine rV 7 rfl ?_
  try go_frame
  refine rV 8 rfl ?_
  try go_frame
  refine rD ?_ _;refine Kq ?_;clear hHeld
  all_goals
   go_wp2_with fail;go_ret;exact am.of (gR.any (by have:=HO.out;omega) (by have:=HO.out;omega) (by have:=HO.out;omega)) (BE.out.Ih B.out)
 by_cases h4:p.op=4\/p.op=5\/p.op=6\/p.op=7
 ·have HO4:=qD h4;have HLV:=qD fun(wr:World) (hb:Below wa.heap.size wa wr)=>HLV0.out (by omega) wr (BE.out.Ih hb);rcases h4 with h4|h4|h4|h4
  all_goals
   rw[h4] at d0;clear h4;go_upto_region 12 with fail
   have B:=qD ((Ju wa.heap.size wa).drewN 1);refine Kn ?_;refine Kg (S:=(fun w'=>(Instr.loadAt 29 (.pointer (some ⟨w.heap.size,2,none⟩))).run prog w'=.ok (.agg p.arg.1.list.toArray) w'/\(Instr.loadAt 38 (.pointer (some ⟨w.heap.size,0,none⟩))).run prog w'=.ok (aW p) w'/\(w'.cell? ⟨w.heap.size,0,none⟩=some (.int .i64 p.op)/\w'.cell? ⟨w.heap.size,1,none⟩=some (.slice p.path.A p.path.n p.path.c)/\w'.cell? ⟨w.heap.size,7,none⟩=some (.slice p.args.A p.args.n p.args.c)/\w'.cell? ⟨w.heap.size,8,none⟩=some (.int .i64 p.n)/\w'.cell? ⟨w.heap.size,24,none⟩=some (.slice p.kA p.kn p.kc))/\w'.cell? ⟨w.heap.size+1,0,none⟩=some (.int .i64 c.k)/\w'.cell? ⟨w.heap.size+1,1,none⟩=some (.int .i64 c.n)/\w'.cell? ⟨w.heap.size+1,2,none⟩=some (.string c.t)/\w'.cell? ⟨w.heap.size+1,3,none⟩=some (.slice c.LA c.ln c.lc)/\w'.cell? ⟨w.heap.size+1,4,none⟩=some (.slice c.DA c.dn c.dc))) (by kernel_rfl) ?_ (fun hHeld=>?_)
   ·(try dsimp only);exact KS.out _ B.out
   refine rV 0 rfl ?_
   try go_frame
   refine rV 1 rfl ?_
   try go_frame
   refine rV 2 rfl ?_
   try go_frame
   refine rV 4 rfl ?_
   try go_frame
   refine rV 5 rfl ?_
   try go_frame
   refine rV 6 rfl ?_
   try go_frame
   refine rT (v:=.agg p.arg.1.list.toArray) 7 rfl (fun w' hSw=>bL (p:=.pointer (some ⟨w.heap.size,2,none⟩)) rfl rfl hSw.1) ?_
   try go_frame
   refine rY 3 rfl fun K hK=>?_;go_simp;refine(HLV.out _ B.out).mono ?_;rintro e3 w3 ⟨A1,M,c1,ps,rfl,hsr,hlf,hM,hb3⟩;have HSR:=qD hsr;have HLF:=qD hlf.fn;have HRV:Hid (∀q∈ps,RW w3 q.1 q.2):=qD fun q hq=>((hlf.rv q hq).step hb3).mono fun _ _=>trivial;have HM:=qD hM;replace B:=qD (B.out.Ih hb3);clear hsr hlf hM hb3
   (try go_wp2_with fail)
   clear hHeld;refine hK.out _ _ (KS.out _ B.out) fun hHeld=>?_;clear hK K
   try go_frame
   refine rY 8 rfl fun K hK=>?_;go_simp;refine(qV ps p.op p.arg.2 p.arg.1 A1 M c1 _ HSR.out HRV.out (HAR.out.step (BE.out.Ih B.out)) HM.out HO4.out).mono ?_;rintro e4 w4 ⟨rfl,hb4⟩;rw[iP HLF.out (gD p.op p.arg.2)];replace B:=qD (B.out.Ih hb4);clear hb4
   (try go_wp2_with fail)
   clear hHeld;refine hK.out _ _ (KS.out _ B.out) fun hHeld=>?_;clear hK K
   try go_frame
   refine rV 9 rfl ?_
   try go_frame
   refine rD ?_ _;refine Kq ?_;clear hHeld
   all_goals
    go_wp2_with fail;go_ret;exact am.of (mj.shut (mj.Jr HO4.out rfl)) (BE.out.Ih B.out)
 by_cases h8:p.op=8
 ·have HO:=qD h8;have HAG:=qD fun(wr:World) (hb:Below wa.heap.size wa wr)=>HAG0.out (by omega) wr (BE.out.Ih hb);rw[h8] at d0;clear h8;have RF:=qD (ae B0.out)
  go_wp2_with (first
   | ((with_reducible show wpList _ _ _ (⟨_,.load 38 _,_,_,_,_⟩::_) _ _);refine aE rfl 38 _ rfl w.heap.size 0 rfl _ _ RF.out KH rfl (by kernel_rfl) ?_)
   | (go_at_call 102;refine(HAG.out _ (Ju _ _)).mono ?_;rintro e w1 ⟨rfl,hb⟩;have HB1:=qD hb;clear hb))
  go_ret;exact am.of (mj.shut (mj.Js HO.out HAL.out)) (BE.out.Ih HB1.out)
 by_cases h9:p.op=9
 ·have HO:=qD h9;have HAG:=qD fun(wr:World) (hb:Below wa.heap.size wa wr)=>HAG0.out (by omega) wr (BE.out.Ih hb);rw[h9] at d0;clear h9;have RF:=qD (ae B0.out)
  go_wp2_with (first
   | ((with_reducible show wpList _ _ _ (⟨_,.load 38 _,_,_,_,_⟩::_) _ _);refine aE rfl 38 _ rfl w.heap.size 0 rfl _ _ RF.out KH rfl (by kernel_rfl) ?_)
   | (go_at_call 102;refine(HAG.out _ (Ju _ _)).mono ?_;rintro e w1 ⟨rfl,hb⟩;have HB1:=qD hb;clear hb))
  go_ret;exact am.of (gR.any (by have:=HO.out;omega) (by have:=HO.out;omega) (by have:=HO.out;omega)) (BE.out.Ih HB1.out)
 by_cases h14:p.op=14
 ·have HO:=qD h14;have HAG:=qD fun(wr:World) (hb:Below wa.heap.size wa wr)=>HAG0.out (by omega) wr (BE.out.Ih hb);rw[h14] at d0;clear h14;go_upto_region 18 with fail
  have B:=qD ((Ju wa.heap.size wa).drewN 1);refine Kn ?_;refine Kg (S:=(fun w'=>(Instr.loadAt 29 (.pointer (some ⟨w.heap.size,2,none⟩))).run prog w'=.ok (.agg p.arg.1.list.toArray) w'/\(Instr.loadAt 38 (.pointer (some ⟨w.heap.size,0,none⟩))).run prog w'=.ok (aW p) w'/\(w'.cell? ⟨w.heap.size,0,none⟩=some (.int .i64 p.op)/\w'.cell? ⟨w.heap.size,1,none⟩=some (.slice p.path.A p.path.n p.path.c)/\w'.cell? ⟨w.heap.size,7,none⟩=some (.slice p.args.A p.args.n p.args.c)/\w'.cell? ⟨w.heap.size,8,none⟩=some (.int .i64 p.n)/\w'.cell? ⟨w.heap.size,24,none⟩=some (.slice p.kA p.kn p.kc))/\w'.cell? ⟨w.heap.size+1,0,none⟩=some (.int .i64 c.k)/\w'.cell? ⟨w.heap.size+1,1,none⟩=some (.int .i64 c.n)/\w'.cell? ⟨w.heap.size+1,2,none⟩=some (.string c.t)/\w'.cell? ⟨w.heap.size+1,3,none⟩=some (.slice c.LA c.ln c.lc)/\w'.cell? ⟨w.heap.size+1,4,none⟩=some (.slice c.DA c.dn c.dc))) (by kernel_rfl) ?_ (fun hHeld=>?_)
  ·(try dsimp only);exact KS.out _ B.out
  refine rT (v:=aW p) 0 rfl (fun w' hSw=>bL (p:=.pointer (some ⟨w.heap.size,0,none⟩)) rfl rfl hSw.2.1) ?_
  try go_frame
  refine rV 1 rfl ?_
  try go_frame
  refine rV 3 rfl ?_
  try go_frame
  refine rV 4 rfl ?_
  try go_frame
  refine rV 5 rfl ?_
  try go_frame
  refine rY 2 rfl fun K hK=>?_;go_simp;refine(HAG.out _ B.out).mono ?_;rintro e3 w3 ⟨rfl,hb3⟩;replace B:=qD (B.out.Ih hb3);clear hb3
  (try go_wp2_with fail)
  clear hHeld;refine hK.out _ _ (KS.out _ B.out) fun hHeld=>?_;clear hK K
  try go_frame
  refine rV 6 rfl ?_
  try go_frame
  refine rV 7 rfl ?_
  try go_frame
  refine rD ?_ _;refine Kq ?_;clear hHeld
  all_goals
   go_wp2_with fail;go_ret;exact am.of (gR.any (by have:=HO.out;omega) (by have:=HO.out;omega) (by have:=HO.out;omega)) (BE.out.Ih B.out)
 by_cases h10:p.op=10
 ·have HO:=qD h10;have HSM:=qD fun(wr:World) (hb:Below wa.heap.size wa wr)=>HSM0.out (by omega) wr (BE.out.Ih hb);rw[h10] at d0;clear h10;go_upto_region 20 with fail
  have B:=qD ((Ju wa.heap.size wa).drewN 1);refine Kn ?_;refine Kg (S:=(fun w'=>(Instr.loadAt 29 (.pointer (some ⟨w.heap.size,2,none⟩))).run prog w'=.ok (.agg p.arg.1.list.toArray) w'/\(Instr.loadAt 38 (.pointer (some ⟨w.heap.size,0,none⟩))).run prog w'=.ok (aW p) w'/\(w'.cell? ⟨w.heap.size,0,none⟩=some (.int .i64 p.op)/\w'.cell? ⟨w.heap.size,1,none⟩=some (.slice p.path.A p.path.n p.path.c)/\w'.cell? ⟨w.heap.size,7,none⟩=some (.slice p.args.A p.args.n p.args.c)/\w'.cell? ⟨w.heap.size,8,none⟩=some (.int .i64 p.n)/\w'.cell? ⟨w.heap.size,24,none⟩=some (.slice p.kA p.kn p.kc))/\w'.cell? ⟨w.heap.size+1,0,none⟩=some (.int .i64 c.k)/\w'.cell? ⟨w.heap.size+1,1,none⟩=some (.int .i64 c.n)/\w'.cell? ⟨w.heap.size+1,2,none⟩=some (.string c.t)/\w'.cell? ⟨w.heap.size+1,3,none⟩=some (.slice c.LA c.ln c.lc)/\w'.cell? ⟨w.heap.size+1,4,none⟩=some (.slice c.DA c.dn c.dc))) (by kernel_rfl) ?_ (fun hHeld=>?_)
  ·(try dsimp only);exact KS.out _ B.out
  refine rT (v:=aW p) 0 rfl (fun w' hSw=>bL (p:=.pointer (some ⟨w.heap.size,0,none⟩)) rfl rfl hSw.2.1) ?_
  try go_frame
  refine rV 1 rfl ?_
  try go_frame
  refine rV 3 rfl ?_
  try go_frame
  refine rV 4 rfl ?_
  try go_frame
  refine rV 5 rfl ?_
  try go_frame
  refine rY 2 rfl fun K hK=>?_;go_simp;refine(HSM.out _ B.out).mono ?_;rintro e3 w3 ⟨r,rfl,_,hb3⟩;replace B:=qD (B.out.Ih hb3);clear hb3
  (try go_wp2_with fail)
  clear hHeld;refine hK.out _ _ (KS.out _ B.out) fun hHeld=>?_;clear hK K
  try go_frame
  refine rV 6 rfl ?_
  try go_frame
  refine rV 7 rfl ?_
  try go_frame
  refine rD ?_ _;refine Kq ?_;clear hHeld
  all_goals
   go_wp2_with fail;go_ret;exact am.of (gR.any (by have:=HO.out;omega) (by have:=HO.out;omega) (by have:=HO.out;omega)) (BE.out.Ih B.out)
 by_cases h20:p.op=20
 ·have HO:=qD h20;have HKD:=qD fun(wr:World) (hb:Below wa.heap.size wa wr)=>HKD0.out (by omega) wr (BE.out.Ih hb);rw[h20] at d0;clear h20;go_upto_region 22 with fail
  have B:=qD ((Ju wa.heap.size wa).drewN 1);refine Kn ?_;refine Kg (S:=(fun w'=>(Instr.loadAt 29 (.pointer (some ⟨w.heap.size,2,none⟩))).run prog w'=.ok (.agg p.arg.1.list.toArray) w'/\(Instr.loadAt 38 (.pointer (some ⟨w.heap.size,0,none⟩))).run prog w'=.ok (aW p) w'/\(w'.cell? ⟨w.heap.size,0,none⟩=some (.int .i64 p.op)/\w'.cell? ⟨w.heap.size,1,none⟩=some (.slice p.path.A p.path.n p.path.c)/\w'.cell? ⟨w.heap.size,7,none⟩=some (.slice p.args.A p.args.n p.args.c)/\w'.cell? ⟨w.heap.size,8,none⟩=some (.int .i64 p.n)/\w'.cell? ⟨w.heap.size,24,none⟩=some (.slice p.kA p.kn p.kc))/\w'.cell? ⟨w.heap.size+1,0,none⟩=some (.int .i64 c.k)/\w'.cell? ⟨w.heap.size+1,1,none⟩=some (.int .i64 c.n)/\w'.cell? ⟨w.heap.size+1,2,none⟩=some (.string c.t)/\w'.cell? ⟨w.heap.size+1,3,none⟩=some (.slice c.LA c.ln c.lc)/\w'.cell? ⟨w.heap.size+1,4,none⟩=some (.slice c.DA c.dn c.dc))) (by kernel_rfl) ?_ (fun hHeld=>?_)
  ·(try dsimp only);exact KS.out _ B.out
  refine rT (v:=aW p) 0 rfl (fun w' hSw=>bL (p:=.pointer (some ⟨w.heap.size,0,none⟩)) rfl rfl hSw.2.1) ?_
  try go_frame
  refine rV 1 rfl ?_
  try go_frame
  refine rV 3 rfl ?_
  try go_frame
  refine rV 4 rfl ?_
  try go_frame
  refine rV 5 rfl ?_
  try go_frame
  refine rY 2 rfl fun K hK=>?_;go_simp;refine(HKD.out _ B.out).mono ?_;rintro e3 w3 ⟨bs,rfl,hbs,hb3⟩;have HBS:=qD hbs;replace B:=qD (B.out.Ih hb3);clear hb3 hbs
  (try go_wp2_with fail)
  clear hHeld;refine hK.out _ _ (KS.out _ B.out) fun hHeld=>?_;clear hK K
  try go_frame
  refine rV 6 rfl ?_
  try go_frame
  refine rV 7 rfl ?_
  try go_frame
  refine rD ?_ _;refine Kq ?_;clear hHeld
  all_goals
   go_wp2_with fail;go_ret;exact am.of (mj.shut (mj.Jl HO.out HBS.out (by rw[HKL.out]))) (BE.out.Ih B.out)
 by_cases h21:p.op=21
 ·have HO:=qD h21;have HKD:=qD fun(wr:World) (hb:Below wa.heap.size wa wr)=>HKD0.out (by omega) wr (BE.out.Ih hb);rw[h21] at d0;clear h21;have RF:=qD (ae B0.out)
  go_wp2_with (first
   | ((with_reducible show wpList _ _ _ (⟨_,.load 38 _,_,_,_,_⟩::_) _ _);refine aE rfl 38 _ rfl w.heap.size 0 rfl _ _ RF.out KH rfl (by kernel_rfl) ?_)
   | (go_at_call 104;refine(HKD.out _ (Ju _ _)).mono ?_;rintro e w1 ⟨bs,rfl,hbs,hb⟩;have HBS:=qD hbs;have HB1:=qD hb;clear hb hbs))
  go_ret;exact am.of (mj.shut (mj.Jm HO.out HBS.out)) (BE.out.Ih HB1.out)
 by_cases h22:p.op=22
 ·have HO:=qD h22;have HKD:=qD fun(wr:World) (hb:Below wa.heap.size wa wr)=>HKD0.out (by omega) wr (BE.out.Ih hb);rw[h22] at d0;clear h22;have RF:=qD (ae B0.out)
  go_wp2_with (first
   | ((with_reducible show wpList _ _ _ (⟨_,.load 38 _,_,_,_,_⟩::_) _ _);refine aE rfl 38 _ rfl w.heap.size 0 rfl _ _ RF.out KH rfl (by kernel_rfl) ?_)
   | (go_at_call 104;refine(HKD.out _ (Ju _ _)).mono ?_;rintro e w1 ⟨bs,rfl,hbs,hb⟩;have HBS:=qD hbs;have HB1:=qD hb;clear hb hbs))
  go_ret;exact am.of (gR.any (by have:=HO.out;omega) (by have:=HO.out;omega) (by have:=HO.out;omega)) (BE.out.Ih HB1.out)
 by_cases h23:p.op=23
 ·have HO:=qD h23;have HKD:=qD fun(wr:World) (hb:Below wa.heap.size wa wr)=>HKD0.out (by omega) wr (BE.out.Ih hb);rw[h23] at d0;clear h23;have RF:=qD (ae B0.out)
  go_wp2_with (first
   | ((with_reducible show wpList _ _ _ (⟨_,.load 38 _,_,_,_,_⟩::_) _ _);refine aE rfl 38 _ rfl w.heap.size 0 rfl _ _ RF.out KH rfl (by kernel_rfl) ?_)
   | (go_at_call 104;refine(HKD.out _ (Ju _ _)).mono ?_;rintro e w1 ⟨bs,rfl,hbs,hb⟩;have HBS:=qD hbs;have HB1:=qD hb;clear hb hbs))
  go_ret;exact am.of (gR.any (by have:=HO.out;omega) (by have:=HO.out;omega) (by have:=HO.out;omega)) (BE.out.Ih HB1.out)
 by_cases h24:p.op=24
 ·have HO:=qD h24;rw[h24] at d0;clear h24;have RE:=qD (gp B0.out)
  go_wp2_with (first
   | ((with_reducible show wpList _ _ _ (⟨_,.load 35 _,_,_,_,_⟩::_) _ _);refine aE rfl 35 _ rfl w.heap.size 13 rfl _ _ RE.out Kw rfl (by kernel_rfl) ?_)
   | (go_at_call 106;refine(HEV.out _ BE.out).mono ?_;rintro e w1 ⟨d,rfl,hb⟩;have HB1:=qD hb;clear hb)
   | (go_at_call 105;refine(xJ d _).mono ?_;rintro e w2 ⟨r,rfl,_,hb⟩;have HB2:=qD hb;clear hb))
  go_ret;exact am.of (gR.any (by have:=HO.out;omega) (by have:=HO.out;omega) (by have:=HO.out;omega)) (BE.out.Ih (HB1.out.Ih HB2.out))
 have hop:=V.out.op;have c1:(p.op==1)=false:=by simp only[Kt,Nt];omega
 have c2:(p.op==2)=false:=by simp only[Kt,Nt];omega
 have c3:(p.op==3)=false:=by simp only[Kt,Nt];omega
 have c4:(p.op==4)=false:=by simp only[Kt,Nt];omega
 have c5:(p.op==5)=false:=by simp only[Kt,Nt];omega
 have c6:(p.op==6)=false:=by simp only[Kt,Nt];omega
 have c7:(p.op==7)=false:=by simp only[Kt,Nt];omega
 have c8:(p.op==8)=false:=by simp only[Kt,Nt];omega
 have c9:(p.op==9)=false:=by simp only[Kt,Nt];omega
 have c14:(p.op==14)=false:=by simp only[Kt,Nt];omega
 have c10:(p.op==10)=false:=by simp only[Kt,Nt];omega
 have c20:(p.op==20)=false:=by simp only[Kt,Nt];omega
 have c21:(p.op==21)=false:=by simp only[Kt,Nt];omega
 have c22:(p.op==22)=false:=by simp only[Kt,Nt];omega
 have c23:(p.op==23)=false:=by simp only[Kt,Nt];omega
 have c24:(p.op==24)=false:=by simp only[Kt,Nt];omega
 have HSM:=qD fun(wr:World) (hb:Below wa.heap.size wa wr)=>HSM0.out (by omega) wr (BE.out.Ih hb);have HFI:Hid (∀b,fO p x b->mj p x b):=qD fun b h=>mj.some h2 h4 h8 h20 h21 h;clear hop h1 h2 h3 h4 h8 h9 h10 h14 h20 h21 h22 h23 h24;have RF:=qD (ae B0.out)
 go_wp2_with (first
  | ((with_reducible show wpList _ _ _ (⟨_,.load 38 _,_,_,_,_⟩::_) _ _);refine aE rfl 38 _ rfl w.heap.size 0 rfl _ _ RF.out KH rfl (by kernel_rfl) ?_)
  | (go_at_call 103;refine(HSM.out _ (Ju _ _)).mono ?_;rintro e w1 ⟨r,rfl,hr,hb⟩;have HSO:=qD hr;have HB1:=qD hb;clear hb hr))
 go_ret;exact am.of (mj.shut (HFI.out _ HSO.out)) (BE.out.Ih HB1.out)
theorem Fp:Cn:=fun e x c w h1 h2 h3 h4=>xI e x c w h1 h2 h3.ok h4
theorem rf.of{x:aC}(h:aL x=true):rf x:=by
 refine⟨(bh h).1,fun y hy h4=>?_,.inr h⟩;rcases jR hy (.inr h) with rfl|hv
 ·exact absurd h4 (by decide)
 ·exact tE hv h4
theorem tF(HE:∀p,Cm p)(p:aX)(x:aC)(c:VC)(w:World)(hw:WP w p)(hv:kS p)(hx:RW w c x)(hok:rf x)(hS:dJ w)(hT:cY w):
 Calls prog 11 #[aW p,c.val] w (am (fun b=>(b=true->x.k=5)/\(x.k=5->gR p x b)) w):=by
 have HK:Hid (c.k=x.k):=qD hx.open.k;have B0:Hid (aG ((w.alloc (.cells (aD p) 38)).alloc (.cells c.arr 29)) w.heap.size 38 (aD p)):=(aG.Ii rfl).alloc _;have B1:Hid (aG ((w.alloc (.cells (aD p) 38)).alloc (.cells c.arr 29)) (w.heap.size+1) 29 c.arr):=aG.Ii (by simp);have BE:Hid (Below w.heap.size w ((w.alloc (.cells (aD p) 38)).alloc (.cells c.arr 29))):=((Ju _ _).alloc (qL) _).alloc (by simp) _;have HEL:Hid (∀wr,Below w.heap.size w wr->Calls prog 38 #[aW p,c.val] wr (am (gR p x) wr)):=qD fun wr hb=>HE p x c wr (hw.step hb) hv (hx.step hb) hok (hS.step hb) (hT.step hb);clear hw hv hx hok hS hT HE;go_enter func11,ntmps11;go_upto_region 1 with fail
 change Code.wp _ _ _ _ ((w.alloc (.cells (aD p) 38)).alloc (.cells c.arr 29));generalize (w.alloc (.cells (aD p) 38)).alloc (.cells c.arr 29)=wa at*;obtain⟨a0,a1,a2,a3,a4⟩:=aS.Ig B1.out;simp only[Jw] at a1 a2 a3 a4;cases hk:(c.k==5)
 ·have HK5:Hid (x.k≠5):=qD (by rw[<-HK.out];simpa using hk);go_wp2_with fail;go_ret;exact am.of ⟨fun h=>Bool.noConfusion h,fun h=>absurd h HK5.out⟩ BE.out
 ·have HK5:Hid (x.k=5):=qD (by rw[<-HK.out];simpa using hk);have RF:=qD (ae B0.out);have HEW:=qD (HEL.out wa BE.out)
  go_wp2_with (first
   | ((with_reducible show wpList _ _ _ (⟨_,.load 38 _,_,_,_,_⟩::_) _ _);refine aE rfl 38 _ rfl w.heap.size 0 rfl _ _ RF.out KH rfl (by kernel_rfl) ?_)
   | (go_at_call 38;refine HEW.out.mono ?_;rintro e w1 ⟨r,rfl,hr,hb⟩;have HR:=qD hr;have HB1:=qD hb;clear hb hr))
  go_ret;exact am.of ⟨fun _=>HK5.out,fun _=>HR.out⟩ (BE.out.Ih HB1.out)
theorem AR(p:aX)(x:aC)(c:VC)(w:World)(hw:WP w p)(hv:kS p)(hx:RW w c x)(hok:aL x=true)(hS:dJ w)(hT:cY w):
 Calls prog 11 #[aW p,c.val] w (am (fun b=>(b=true->x.k=5)/\(x.k=5->gR p x b)) w):=
 tF (fun p=>Cq Fp p) p x c w hw hv hx (.of hok) hS hT
end
end Go.Proofs.YtgfoliedmhgpnaaGreatDoor
