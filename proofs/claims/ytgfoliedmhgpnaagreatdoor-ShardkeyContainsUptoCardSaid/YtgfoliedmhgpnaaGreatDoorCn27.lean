/- A part of the proof. -/
import Derived.Test.YtgfoliedmhgpnaaGreatDoorCn26
set_option maxRecDepth 100000
set_option maxHeartbeats 16000000
open Go.Proofs.Tryz
open ByteArray (empty)
namespace Go.Proofs.YtgfoliedmhgpnaaGreatDoor
open Go.RowKit
section
variable {k b n c size:Nat} {w:World} {t:TypeId} {op x y:Int} {r:List ByteArray} {A:Option Addr}
def MP(w:World)(e:Ending)(w':World):Prop:=∃a b n:Int,e=.returned (.tuple #[pt a b,.int .i64 n])/\Bl w w'
theorem Ic(x:aC)(c:VC)(w:World)(h:RW w c x):Calls prog 206 #[c.val] w (MP w):=by
 obtain⟨a,b,er,hres⟩:=xZ (ki x).1 (ki x).2.1 (ki x).2.2.1 (ki x).2.2.2;refine(AD c _ _ _ _ _ (GK h (AE h))).mono ?_;rintro e w1 ⟨rfl,hb⟩;exact⟨a,b,er,by rw[<-hres],hb⟩
theorem KK{ps:List (Int×Int)}(h:SR 2 pP w A n c ps)(hn:n<=maxLen):mC w A n ps:=by
 refine⟨h.ln.symm,hn,fun h0=>?_⟩;obtain⟨b,off,e,hb,hc⟩:=h.el h0;exact⟨b,off,e,hb,fun i x y hi=>⟨by simpa using hc i _ hi 0 _ rfl,hc i _ hi 1 _ rfl⟩⟩
theorem AJ(k:Int)(A:Option Addr)(n c:Nat)(r:Int)(ps:List (Int×Int))(x y:Int)(w:World)(h:SR 2 pP w A n c ps)(hn:n<=maxLen):
 Calls prog 207 #[Lc k A n c r,pt x y] w (am (fun _=>True) w):=by
 refine(xh k A n c r ps x y w (KK h hn)).mono ?_;rintro e w1 ⟨rfl,hb⟩;exact am.of trivial hb
def ft(p:aj)(x:aC)(b:Bool):Prop:=(p.op=11->b=(x.k==p.n))/\(p.op=16->b=(x.k==4&&kg x.t p.arg.2.t))
theorem ft.any{p:aj}{x:aC}{b:Bool}(h:p.op≠11)(h':p.op≠16):ft p x b:=⟨fun e=>absurd e h,fun e=>absurd e h'⟩
theorem ut{x:aC}(h:aJ x=true)(h4:x.k=4):x.t.size<=4096:=by
 unfold aJ at h;rw[Ov,eE] at h;cases x with
 | mk k n t l d=>
  have h5:dU k n t l.length d.length:=h.2.1;have h6:=h5.2.2.2.2;have hk:k=4:=h4;subst hk;show t.size<=4096;rcases h6 with e|e|e|e|⟨e,_⟩|⟨e,_⟩|⟨_,e,_⟩|⟨e,_⟩|⟨e,_⟩|e|e
  all_goals first
   | exact e
   | exact absurd e dE
theorem AK(p:aj)(x:aC)(c:VC)(w:World)(hw:WP w p)(hv:oZ p)(hx:RW w c x)(hS:dP w)(ht:x.k=4->x.t.size<=4096):Calls prog 158 #[al p,c.val] w (am (ft p x) w):=by
 have W:=qD hw.open;have V:=qD hv.open;have HX:=qD hx;have HK:Hid (c.k=x.k):=qD hx.open.k;have HTX:Hid (c.t=x.t):=qD hx.open.t;have HAT:Hid (p.arg.1.t=p.arg.2.t):=qD hw.open.arg.open.t;have HS:=qD hS;have HTE:=qD ht;clear hw hv hx hS ht;go_enter func158,ntmps158;go_upto_region 1 with fail
 refine yS (bL p) 38 c.arr 29 ?_;intro wa B0 B1 BE;obtain⟨d0,d1,d2,d4,d7,d8,d9,d24⟩:=aU B0.out;obtain⟨a0,a1,a2,a3,a4⟩:=aO.Mp B1.out;by_cases h11:p.op=11
 ·have HO:=qD h11;rw[h11] at d0;clear h11;go_wp2;go_ret;exact am.of ⟨fun _=>by rw[<-HK.out],fun e=>absurd (HO.out.symm.trans e) dE⟩ BE.out
 by_cases h12:p.op=12
 ·have HO:=qD h12;rw[h12] at d0;clear h11 h12;cases h3:(c.k==3)
  all_goals
   go_wp2_with (go_at_call 203;refine(Dd _ _ _ _).mono ?_;rintro e w1 ⟨r,rfl,_,hb⟩;replace BE:=qD (BE.out.Ml hb);clear hb);go_ret;exact am.of (ft.any (by rw[HO.out];decide) (by rw[HO.out];decide)) BE.out
 by_cases h16:p.op=16
 ·have HO:=qD h16;rw[h16] at d0;clear h11 h12 h16;obtain⟨z,hz⟩:∃z,kg c.t p.arg.1.t=z:=⟨_,rfl⟩;have HZ:=qD hz;have HPF:=qD fun w1=>ur c.t p.arg.1.t w1;rw[hz] at HPF;clear hz;cases h4:(c.k==4)
  ·have HR:Hid ((x.k==4&&kg x.t p.arg.2.t)=false):=qD (by rw[<-HK.out,h4];rfl);go_wp2;go_ret;exact am.of ⟨fun e=>absurd (HO.out.symm.trans e) dE,fun _=>HR.out.symm⟩ BE.out
  ·have HR:Hid ((x.k==4&&kg x.t p.arg.2.t)=z):=qD (by rw[<-HK.out,h4,<-HTX.out,<-HAT.out,HZ.out];rfl);go_wp2_with (go_at_call 204;refine(HPF.out _).mono ?_;rintro e w1 ⟨rfl,hb⟩;replace BE:=qD (BE.out.Ml hb);clear hb);go_ret;exact am.of ⟨fun e=>absurd (HO.out.symm.trans e) dE,fun _=>HR.out.symm⟩ BE.out
 by_cases h17:p.op=17
 ·have HO:=qD h17;have HPT:Hid (p.arg.1.t.size<=4096):=qD (by rw[HAT.out];exact ut (V.out.argA oM) (V.out.textA oM));rw[h17] at d0;clear h11 h12 h16 h17;cases h4:(c.k==4)
  ·go_wp2;go_ret;exact am.of (ft.any (by rw[HO.out];decide) (by rw[HO.out];decide)) BE.out
  ·have HCT:Hid (c.t.size<=4096):=qD (by rw[HTX.out];exact HTE.out (by rw[<-HK.out];simpa using h4));go_wp2_with (go_at_call 205;refine(zu _ _ _ (OU HPT.out dE) (OU HCT.out dE)).mono ?_;rintro e w1 ⟨r,rfl,_,hb⟩;replace BE:=qD (BE.out.Ml hb);clear hb);go_ret;exact am.of (ft.any (by rw[HO.out];decide) (by rw[HO.out];decide)) BE.out
 by_cases h19:p.op=19
 ·have HO:=qD h19;have HPT:Hid (p.arg.1.t.size<=4096):=qD (by rw[HAT.out];exact ut (V.out.argA oM) (V.out.textA oM));rw[h19] at d0;clear h11 h12 h16 h17 h19;cases h4:(c.k==4)
  ·go_wp2;go_ret;exact am.of (ft.any (by rw[HO.out];decide) (by rw[HO.out];decide)) BE.out
  ·have HCT:Hid (c.t.size<=4096):=qD (by rw[HTX.out];exact HTE.out (by rw[<-HK.out];simpa using h4));go_wp2_with (go_at_call 208;refine(AB _ _ _ (HS.out.step BE.out) (OU HPT.out dE) (OU HCT.out dE)).mono ?_;rintro e w1 ⟨r,rfl,_,hb⟩;replace BE:=qD (BE.out.Ml hb);clear hb);go_ret;exact am.of (ft.any (by rw[HO.out];decide) (by rw[HO.out];decide)) BE.out
 by_cases h18:p.op=18
 ·have HO:=qD h18;rw[h18] at d0;clear h11 h12 h16 h17 h19 h18;have HPO:=qD (Ic x c wa (HX.out.step BE.out));go_upto_region 12 with(go_at_call 206;refine HPO.out.mono ?_;rintro e w1 ⟨pa,pb,er,rfl,hb⟩;replace B0:=qD (B0.out.step hb);replace BE:=qD (BE.out.Ml hb);clear hb)
  change Code.wp _ _ _ _ (w1.alloc (.cells #[Value.int IntKind.i64 pa,Value.int IntKind.i64 pb] 174));have J:Hid (aG (w1.alloc (.cells #[Value.int IntKind.i64 pa,Value.int IntKind.i64 pb] 174)) w1.heap.size 174 #[Value.int IntKind.i64 pa,Value.int IntKind.i64 pb]):=aG.Mm rfl;replace B0:=qD (B0.out.alloc (.cells #[Value.int IntKind.i64 pa,Value.int IntKind.i64 pb] 174));replace BE:=qD (BE.out.alloc BE.out.size (Obj.cells #[Value.int IntKind.i64 pa,Value.int IntKind.i64 pb] 174));generalize w1.alloc (.cells #[Value.int IntKind.i64 pa,Value.int IntKind.i64 pb] 174)=w2 at*;clear d0 d1 d2 d4 d7 d8 d9 d24 a0 a1 a2 a3 a4 HPO B1;have q0:=J.out.cell 0;have q1:=J.out.cell 1;simp at q0 q1;have RS:=qD (kZ B0.out);have HIN:=qD (AJ p.sk p.pts.A p.pts.n p.pts.c p.sr p.pts.xs pa pb w2 (W.out.pts.step BE.out) (by have:=W.out.psz;unfold aF at this;unfold maxLen;omega));by_cases he:er=0
  ·subst he
   go_wp2_with (first
    | ((with_reducible show wpList _ _ _ (⟨_,.load 32 _,_,_,_,_⟩::_) _ _);refine aH rfl 32 _ rfl w.heap.size 10 rfl _ _ RS.out Rj rfl kR ?_)
    | (go_at_call 207;refine HIN.out.mono ?_;rintro e w3 ⟨r,rfl,_,hb⟩;replace BE:=qD (BE.out.Ml hb);clear hb))
   go_ret;exact am.of (ft.any (by rw[HO.out];decide) (by rw[HO.out];decide)) BE.out
  ·have heb:(er==0)=false:=by simpa using he
   go_wp2;go_ret;exact am.of (ft.any (by rw[HO.out];decide) (by rw[HO.out];decide)) BE.out
 ·have HO:Hid (p.op≠11/\p.op≠16):=qD ⟨h11,h16⟩;go_wp2;go_ret;exact am.of (ft.any HO.out.1 HO.out.2) BE.out
theorem AL{x y:aC}(h:aJ x=true)(hy:y∈x.parts):aJ y=true:=by
 obtain⟨h1,h2,h3⟩:=cf h;have hh:=(aT _ _).1 h3;have h4:=cy hy;have h5:=iG hy;refine jv oM oM ?_;unfold aC.parts at hy;split at hy
 ·exact hh.2.1 y hy
 ·split at hy
  ·obtain⟨f,hf,rfl⟩:=PK.1 hy;exact hh.2.2.1 f hf
  ·cases hy
end
structure tz(x:aC):Prop where
 size:x.size<=1024
 text:∀y,dN y x->y.k=4->y.t.size<=4096
 ok:x=aC.zero\/aJ x=true
section
variable {n i c:Nat} {w:World} {a x y:Int} {xs:List Value}
theorem oP{x y:aC}(hy:dN y x)(h:x=aC.zero\/aJ x=true):y=aC.zero\/aJ y=true:=by
 induction hy with
 | refl=>exact h
 | part hz _ ih=>
  refine ih ?_;rcases h with rfl|h
  ·exact absurd hz (by simp[aC.parts,aC.zero,aC.k])
  ·exact .inr (AL h hz)
theorem tz.part{x y:aC}(h:tz x)(hy:dN y x):tz y:=by
 refine⟨OU hy.size h.size,fun z hz=>h.text z ?_,oP hy h.ok⟩
 induction hz with
 | refl=>exact hy
 | part hq _ ih=>
  refine ih ?_
  have:∀{y x:aC},dN y x->∀z,z∈y.parts->dN z x:=by
   intro y x h
   induction h with
   | refl=>intro z hz;exact .part hz (.refl z)
   | part hq _ ih=>intro z hz;exact .part hq (ih z hz)
  exact this hy _ hq
theorem tz.zero:tz aC.zero:=by
 refine⟨by decide,fun y hy h4=>?_,.inl rfl⟩;cases hy with
 | refl=>exact absurd h4 dE
 | part hz _=>exact absurd hz (by simp[aC.parts,aC.zero,aC.k])
theorem tz.leaf{x y:aC}(h:tz x)(hy:dN y x\/y=aC.zero):tz y:=by
 rcases hy with hy|rfl
 ·exact h.part hy
 ·exact tz.zero
noncomputable def sE(x:aC)(l:List ByteArray)(a:aC):Bool:=(ch x l).any (lD a)
noncomputable def mE(p:aj)(x:aC)(i:Nat):Nat:=((p.args.xs.take i).filter fun a=>sE x p.path.xs a.2).length
theorem AM{p:aj}{x:aC}{a:PV}(h:p.args.xs[i]?=some a):mE p x (i+1)=mE p x i+(if sE x p.path.xs a.2 then 1 else 0):=by
 unfold mE;rw[Pf,h,List.filter_append,OK];congr 1;by_cases hq:sE x p.path.xs a.2=true
 ·rw[OW hq];simp[hq]
 ·rw[OQ hq];simp[hq]
theorem GM(p:aj)(x:aC)(i:Nat):mE p x i<=i:=by
 unfold mE;exact OU (List.length_filter_le _ _) (by rw[Ow];exact TP _ _)
theorem jT{ps:List PV}{zs:List aC}(h:ps.map Prod.snd=zs)(f:aC->Bool):(ps.any fun p=>f p.2)=zs.any f:=by
 rw[<-h,List.any_map];rfl
theorem AN(p:aj)(x:aC)(c:VC)(w:World)(hw:WP w p)(hx:RW w c x)(hok:tz x)(hl:p.path.xs.length<=16):Calls prog 102 #[al p,c.val] w (Rt w (.int .i64 (mE p x p.args.n:Nat))):=by
 have W:=qD hw.open;have haz:p.args.n<=1048576:=W.out.few;have HX:Hid (RV (fun b=>b<w.heap.size) w c x):=qD (hx.lt.mono fun b hb=>hb.2);have HOK:=qD hok;have HLL:=qD hl;clear hw hx hok hl;go_enter func102,ntmps102;go_upto_region 1 with fail
 refine yS (bL p) 38 c.arr 29 ?_;intro wa B0 B1 BE;obtain⟨d0,d1,-,-,-,-,-,-⟩:=aU B0.out;obtain⟨a0,a1,a2,a3,a4⟩:=aO.Mp B1.out;have HLV:=qD (nP x (fun b=>b<w.heap.size) p.path.xs c p.path.A p.path.n p.path.c wa (fun b hb=>Ol hb BE.out.size) (HX.out.keep fun b hb=>BE.out.block b hb) (W.out.path.step BE.out) HOK.out.size HLL.out);go_upto_region 2 with(go_at_call 100;refine HLV.out.mono ?_;rintro e w1 ⟨A1,M,c1,ps,rfl,hsr,hlf,hM,hb⟩;have HSR:=qD hsr;have HLF:=qD hlf;have HM:=qD hM;have C0:=qD (B0.out.step hb);have CB:=qD hb;clear hsr hlf hM hb)
 clear d0 d1 a0 a1 a2 a3 a4 HLV B1;go_upto_region 4 with fail
 go_loopw [6,7] (fun v6 v7 wr=>∃i:Nat,i<=p.args.n/\v7=.int .i64 i/\v6=.int .i64 (mE p x i:Nat)/\Bl w1 wr) (fun _ v7 _=>p.args.n-(intOf v7).toNat)
 ·exact⟨0,ON _,rfl,rfl,OG _ _⟩
 case round=>
  obtain⟨i,hi,rfl,rfl,hB⟩:=hrel;have HB:=qD hB;have D0:=qD (C0.out.step hB);have DE:=qD (BE.out.Ml (CB.out.Ml hB));clear hB;obtain⟨-,-,-,-,d7,-,-,-⟩:=aU D0.out;have hcn:=GM p x i;by_cases hlt:i<p.args.n
  ·obtain⟨b,off,a,hA,hb,hxx,hm,hrg⟩:=W.out.args.sr.row hlt;have RG:=qD (bB hrg DE.out hb);have HV:=qD ((W.out.args.rv a hm).step DE.out);have HNX:=qD (AM (x:=x) hxx);rw[hA] at d7;have HEQ:=qD (ls ps a.2 a.1 A1 M c1 wr (HSR.out.step HB.out) (fun q hq=>((HLF.out.rv q hq).step (CB.out.Ml HB.out)).mono fun _ _=>trivial) HV.out HM.out);rw[jT HLF.out.fn (lD a.2)] at HEQ;obtain⟨z,hz⟩:∃z,sE x p.path.xs a.2=z:=⟨_,rfl⟩;have hz':(ch x p.path.xs).any (lD a.2)=z:=hz;rw[hz'] at HEQ;rw[hz] at HNX;clear hrg hA hxx hz hz';have i0:(0:Int)<=(i:Int):=oM
   have i1:(i:Int)<(p.args.n:Int):=oM
   go_wp2_with (first
    | ((with_reducible show wpList _ _ _ (⟨_,.load 29 _,_,_,_,_⟩::_) _ _);refine aH rfl 29 _ rfl b (off+i*5) rfl _ _ RG.out Pj rfl kR ?_)
    | (go_at_call 99;refine HEQ.out.mono ?_;rintro e w2 ⟨rfl,hb2⟩;have HB2:=qD hb2;clear hb2;cases z))
   ·go_roundw
    ·exact⟨i+1,by omega,by go_num,by rw[HNX.out];rfl,HB.out.Ml HB2.out⟩
    ·exact iO
   ·go_roundw
    ·exact⟨i+1,by omega,by go_num,by rw[HNX.out];go_num,HB.out.Ml HB2.out⟩
    ·exact iO
  ·obtain rfl:i=p.args.n:=oM
   go_wp2;go_ret;exact⟨rfl,DE.out⟩
def iw:aj->aC->Bool->Prop
 | .mk op path arg args n _ _ _ _ _ _ _ _ kids,x,b=>
  (op=2->b=sE x path.xs arg.2)/\(op=4\/op=5\/op=6\/op=7->b=(ch x path.xs).any (iE op arg.2))/\(op=8->b=args.xs.any fun a=>sE x path.xs a.2)/\
   (op=11->b=(ch x path.xs).any fun z=>z.k==n)/\(op=16->b=(ch x path.xs).any fun z=>z.k==4&&kg z.t arg.2.t)/\
   (op=20->∃bs,ElRs kids x bs/\b=bs.all id)/\(op=21->∃bs,ElRs kids x bs/\b=bs.any id)
where ElRs:List aj->aC->List Bool->Prop
 | [],_,bs=>bs=[]
 | k::r,x,bs=>∃b q,bs=b::q/\iw k x b/\ElRs r x q
end
structure oQ(p:aj)(x:aC)(b:Bool):Prop where
 eq:p.op=2->b=sE x p.path.xs p.arg.2
 ord:p.op=4\/p.op=5\/p.op=6\/p.op=7->b=(ch x p.path.xs).any (iE p.op p.arg.2)
 isin:p.op=8->b=p.args.xs.any fun a=>sE x p.path.xs a.2
 kind:p.op=11->b=(ch x p.path.xs).any fun z=>z.k==p.n
 pre:p.op=16->b=(ch x p.path.xs).any fun z=>z.k==4&&kg z.t p.arg.2.t
 all:p.op=20->∃bs,iw.ElRs p.kids x bs/\b=bs.all id
 one:p.op=21->∃bs,iw.ElRs p.kids x bs/\b=bs.any id
section
variable {k b n i lo c size bs:Nat} {w w':World} {e t:TypeId} {a op x y:Int} {l r:List ByteArray} {v:Value} {s:ByteArray}
theorem oQ.shut{p:aj}{x:aC}{b:Bool}(h:oQ p x b):iw p x b:=by
 cases p;exact⟨h.eq,h.ord,h.isin,h.kind,h.pre,h.all,h.one⟩
theorem iw.open{p:aj}{x:aC}{b:Bool}(h:iw p x b):oQ p x b:=by
 cases p;obtain⟨h1,h2,h3,h4,h5,h6,h7⟩:=h;exact⟨h1,h2,h3,h4,h5,h6,h7⟩
theorem iw.any{p:aj}{x:aC}{b:Bool}(h:p.op=1\/p.op=3\/p.op=9\/p.op=10\/p.op=12\/p.op=13\/p.op=14\/p.op=15\/17<=p.op)(h1:p.op≠20)(h2:p.op≠21):iw p x b:=
 oQ.shut ⟨fun e=>by omega,fun e=>by omega,fun e=>by omega,fun e=>by omega,fun e=>by omega,fun e=>by omega,fun e=>by omega⟩
theorem ElRs.snoc{x:aC}{k:aj}{b:Bool}:∀{l:List aj} {i:Nat} {bs:List Bool},iw.ElRs (l.take i) x bs->l[i]?=some k->iw k x b->iw.ElRs (l.take (i+1)) x (bs++[b]):=by
 intro l
 induction l with
 | nil=>intro i bs _ h;simp at h
 | cons a r ih=>
  intro i bs h hk hb;cases i with
  | zero=>
   simp only[QU,iw.ElRs] at h;subst h;simp at hk;subst hk;simp only[Pl,QU,iw.ElRs,PG];exact⟨b,[],rfl,hb,rfl⟩
  | succ i=>
   simp only[Pl,iw.ElRs] at h ⊢;obtain⟨b0,q,rfl,h1,h2⟩:=h;exact⟨b0,q++[b],rfl,h1,ih h2 (by simpa using hk) hb⟩
theorem ElRs.len{x:aC}:∀{l:List aj} {bs:List Bool},iw.ElRs l x bs->bs.length=l.length:=by
 intro l
 induction l with
 | nil=>intro bs h;simp only[iw.ElRs] at h;subst h;rfl
 | cons a r ih=>
  intro bs h;simp only[iw.ElRs] at h;obtain⟨b0,q,rfl,_,h2⟩:=h;simp[ih h2]
def mF(bs:List Bool):Nat:=(bs.filter id).length
theorem uA(bs:List Bool)(b:Bool):mF (bs++[b])=mF bs+(if b then 1 else 0):=by
 unfold mF;rw[List.filter_append,OK];cases b<;>rfl
theorem Bj(bs:List Bool):mF bs<=bs.length:=List.length_filter_le _ _
def GN(p:aj):Prop:=∀(x:aC) (c:VC) (w:World),WP w p->oZ p->RW w c x->tz x->dP w->cZ w->Calls prog 38 #[al p,c.val] w (am (iw p x) w)
theorem AO(p:aj)(ih:∀k∈p.kids,GN k)(x:aC)(c:VC)(w:World)(hw:WP w p)(hv:∀k∈p.kids,oZ k)(hx:RW w c x)(hok:tz x)(hS:dP w)(hT:cZ w):Calls prog 104 #[al p,c.val] w fun e w'=>∃bs,e=.returned (.int .i64 (mF bs:Nat))/\iw.ElRs p.kids x bs/\Bl w w':=by
 have W:=qD hw.open;have hkz:p.kn<=140737488355328:=by have:=W.out.ksz;unfold aF at this;omega
 have HE:Hid (∀k∈p.kids,∀wr,Bl w wr->Calls prog 38 #[al k,c.val] wr (am (iw k x) wr)):=qD fun k hk wr hb=>ih k hk x c wr ((W.out.kids k hk).step hb) (hv k hk) (hx.step hb) hok (hS.step hb) (hT.step hb);clear hw hx hok hv hS hT ih;go_enter func104,ntmps104;go_upto_region 1 with fail
 refine yS (bL p) 38 c.arr 29 ?_;intro wa B0 B1 BE;go_upto_region 3 with fail
 go_loopw [5,6] (fun v5 v6 wr=>∃(i:Nat) (bs:List Bool),i<=p.kn/\v6=.int .i64 i/\v5=.int .i64 (mF bs:Nat)/\iw.ElRs (p.kids.take i) x bs/\Bl wa wr) (fun _ v6 _=>p.kn-(intOf v6).toNat)
 ·exact⟨0,[],ON _,rfl,rfl,by simp[iw.ElRs],OG _ _⟩
 case round=>
  obtain⟨i,bs,hi,rfl,rfl,hel,hB⟩:=hrel;have HEL:=qD hel;have HB:=qD hB;have D0:=qD (B0.out.step hB);have D1:=qD (B1.out.step hB);have DE:=qD (BE.out.Ml hB)
  have hcb:mF bs<=p.kn:=by
   have h1:=Bj bs;have h2:=ElRs.len hel;rw[Ow] at h2;omega
  clear hel hB;obtain⟨-,-,-,-,-,-,-,d24⟩:=aU D0.out;obtain⟨a0,a1,a2,a3,a4⟩:=aO.Mp D1.out;by_cases hlt:i<p.kn
  ·obtain⟨kb,ko,k,hA,hb,hxx,hm,hrg⟩:=W.out.sr.row hlt;have HXK:=qD hxx;have RG:=qD (bB hrg DE.out hb);have HLB:Hid (kb<wr.heap.size):=qD (Ol hb DE.out.size);have IX:=qD fun(w':World) (hw:Bl wr w')=>HE.out k hm w' (DE.out.Ml hw);rw[hA] at d24;have i0:(0:Int)<=(i:Int):=oM
   have i1:(i:Int)<(p.kn:Int):=oM
   clear hrg hA hxx;go_upto_region 5 with fail
   have KS:Hid (∀w',Bl wr w'->(fun w'=>(Instr.loadAt 38 (.pointer (some ⟨kb,ko+i*25,none⟩))).run prog w'=.ok (.agg (eY k).toArray) w'/\w'.cell? ⟨w.heap.size,24,none⟩=some (.slice (some ⟨kb,ko,none⟩) p.kn p.kc)/\w'.cell? ⟨w.heap.size+1,0,none⟩=some (.int .i64 c.k)/\w'.cell? ⟨w.heap.size+1,1,none⟩=some (.int .i64 c.n)/\w'.cell? ⟨w.heap.size+1,2,none⟩=some (.string c.t)/\w'.cell? ⟨w.heap.size+1,3,none⟩=some (.slice c.LA c.ln c.lc)/\w'.cell? ⟨w.heap.size+1,4,none⟩=some (.slice c.DA c.dn c.dc)) w'):=qD fun w' hw=>
    ⟨Qy w' kb (ko+i*25) 38 (eY k) _ (bB RG.out hw HLB.out) Oq rfl kR,(hw.cell (p:=⟨w.heap.size,24,none⟩) D0.out.lt).trans d24,(hw.cell (p:=⟨w.heap.size+1,0,none⟩) D1.out.lt).trans a0,(hw.cell (p:=⟨w.heap.size+1,1,none⟩) D1.out.lt).trans a1,(hw.cell (p:=⟨w.heap.size+1,2,none⟩) D1.out.lt).trans a2,(hw.cell (p:=⟨w.heap.size+1,3,none⟩) D1.out.lt).trans a3,(hw.cell (p:=⟨w.heap.size+1,4,none⟩) D1.out.lt).trans a4⟩
   have B:=qD ((OG wr.heap.size wr).drewN 1);clear d24 a0 a1 a2 a3 a4;refine PH ?_;refine Oy (S:=(fun w'=>(Instr.loadAt 38 (.pointer (some ⟨kb,ko+i*25,none⟩))).run prog w'=.ok (.agg (eY k).toArray) w'/\w'.cell? ⟨w.heap.size,24,none⟩=some (.slice (some ⟨kb,ko,none⟩) p.kn p.kc)/\w'.cell? ⟨w.heap.size+1,0,none⟩=some (.int .i64 c.k)/\w'.cell? ⟨w.heap.size+1,1,none⟩=some (.int .i64 c.n)/\w'.cell? ⟨w.heap.size+1,2,none⟩=some (.string c.t)/\w'.cell? ⟨w.heap.size+1,3,none⟩=some (.slice c.LA c.ln c.lc)/\w'.cell? ⟨w.heap.size+1,4,none⟩=some (.slice c.DA c.dn c.dc))) kR ?_ (fun hHeld=>?_)
   ·(try dsimp only);exact KS.out _ B.out
   refine rV 0 rfl ?_
   try go_frame
   refine rV 1 rfl ?_
   try go_frame
   refine rV 2 rfl ?_
   try go_frame
   refine rV 3 rfl ?_
   try go_frame
   refine rT (v:=.agg (eY k).toArray) 4 rfl (fun w' hSw=>bm (p:=.pointer (some ⟨kb,ko+i*25,none⟩)) rfl rfl hSw.1) ?_
   try go_frame
   refine rV 5 rfl ?_
   try go_frame
   refine rY 6 rfl fun K hK=>?_;go_simp;refine(IX.out _ B.out).mono ?_;rintro e3 w3 ⟨r,rfl,hR,hb3⟩;replace B:=qD (B.out.Ml hb3);have HR:=qD hR;clear hb3 hR
   (try go_wp2_with fail)
   clear hHeld;refine hK.out _ _ (KS.out _ B.out) fun hHeld=>?_;clear hK K
   try go_frame
   refine rD ?_ _;refine PL ?_;clear hHeld;cases r
   ·go_wp2_with fail;go_roundw
    ·exact⟨i+1,bs++[false],by omega,by go_num,by rw[uA];rfl,ElRs.snoc HEL.out HXK.out HR.out,HB.out.Ml B.out⟩
    ·exact iO
   ·go_wp2_with fail;go_roundw
    ·exact⟨i+1,bs++[true],by omega,by go_num,by rw[uA];go_num,ElRs.snoc HEL.out HXK.out HR.out,HB.out.Ml B.out⟩
    ·exact iO
  ·obtain rfl:i=p.kn:=oM
   have HELF:Hid (iw.ElRs p.kids x bs):=qD (by have:=HEL.out;rwa [OS (by have:=W.out.sr.ln;omega)] at this);go_wp2;go_ret;exact⟨bs,rfl,HELF.out,DE.out⟩
theorem ow{x y:aC}(h:aZ x y<=0):aq (x,false) (y,true)<0:=by
 by_cases h0:aZ x y=0
 ·rw[fj (a:=(x,false)) (b:=(y,true)) h0];show yP false true<0;decide
 ·rw[kX (a:=(x,false)) (b:=(y,true)) h0];show aZ x y<0;omega
theorem mf{x y:aC}{b:Bool}(h:aZ x y<=0):aq (x,b) (y,b)<=0:=by
 by_cases h0:aZ x y=0
 ·rw[fj (a:=(x,b)) (b:=(y,b)) h0];show yP b b<=0;cases b<;>decide
 ·rw[kX (a:=(x,b)) (b:=(y,b)) h0];show aZ x y<=0;omega
theorem sF{x y:aC}{b c:Bool}(h:aZ x y<0):aq (x,b) (y,c)<0:=by
 rw[kX (a:=(x,b)) (b:=(y,c)) (show aZ x y≠0 by omega)];exact h
theorem kj{x:Iv}{y:aC}(hlo:aJ x.lo=true)(hhi:aJ x.hi=true)(h1:aq x.sp.1 (y,false)<=0)(h2:aq (y,false) x.sp.2<0):ei aq (y,false) (aV [x]):=by
 have hne:x.ne=true:=by
  unfold Iv.ne;rw[hlo,hhi,OM (dF.Nc h1 h2)];rfl
 refine⟨x.sp,?_,h1,h2⟩;unfold aV;rw[SB hne];simp
theorem Ie{l:List Iv}{x:Iv}{a:cx}(hx:x∈l)(h:ei aq a (aV [x])):ei aq a (aV l):=by
 obtain⟨s,hs,h1,h2⟩:=h;obtain⟨z,hz,rfl⟩:=PK.1 hs;obtain⟨hz1,hz2⟩:=RI.1 hz;simp only[Ox] at hz1;subst hz1;exact⟨z.sp,PK.2 ⟨z,RI.2 ⟨hx,hz2⟩,rfl⟩,h1,h2⟩
theorem JJ{v y:aC}(hv:aJ v=true)(h:aZ v y=0):ei aq (y,false) (aV [eZ v]):=by
 have h':aZ y v=0:=by have:=iS v y;omega
 exact kj hv hv (mf (x:=v) (y:=y) (b:=false) oM) (ow (x:=y) (y:=v) oM)
theorem KM{y:aC}(hy:aJ y=true):fe (y,false):=by
 refine(rA.2 (y,false)).1 ⟨_,Ox.2 rfl,Ev hy,?_⟩;refine ow ?_;have:=Ew (a:=(y,true)) hy;by_cases h0:aZ y iP=0
 ·omega
 ·rw[kX (a:=(y,true)) (b:=(iP,true)) h0] at this;exact this
theorem nQ{k n:Int}{t:ByteArray}(h:dU k n t 0 0):aJ (.mk k n t [] [])=true:=by
 have e:(aC.mk k n t [] []).parts=[]:=by
  unfold aC.parts;split
  ·rfl
  ·split<;>rfl
 refine jv ?_ ?_ ?_
 ·rw[dh,e];simp[bE]
 ·rw[eD,e];simp[ao]
 ·exact(aT _ _).2 ⟨h,by simp[aC.l],by simp[aC.d],by simp[aC.d,ib]⟩
theorem GP:cE empty=true:=kR
theorem mG{k:Int}(h:1<=k/\k<=11):aJ (cF k)=true:=by
 have:k=1\/k=2\/k=3\/k=4\/k=5\/k=6\/k=7\/k=8\/k=9\/k=10\/k=11:=oM
 have e0:ByteArray.empty.size=0:=rfl;have e1:dC.size=12:=rfl;rcases this with rfl|rfl|rfl|rfl|rfl|rfl|rfl|rfl|rfl|rfl|rfl<;>refine nQ ?_<;>unfold dU<;>simp[e0,e1,GP]
theorem pf:∀(n:Nat) (l:List UInt8),l.length=n->Lib.compareBytes (List.replicate n 0) l<=0
 | 0,[],_=>by decide
 | n+1,a::l,h=>by
  rw[List.replicate_succ,fz];have ih:=pf n l (by simpa using h);have h0:=dJ ((0:UInt8).toNat:Int) (a.toNat:Int);have h1:(0:UInt8).toNat=0:=rfl;unfold mi;split
  ·omega
  ·exact ih
theorem ox(l:List UInt8):Lib.compareBytes [] l<=0:=by
 cases l with
 | nil=>decide
 | cons a r=>simp[Lib.compareBytes]
theorem GQ(l:List bf):cI [] l<=0:=by
 rw[cI];split<;>omega
theorem GS{y:aC}(hy:aJ y=true)(hn:gx y.n)(h6:y.k≠6):aZ (cF y.k) y<=0:=by
 have hk:=dm hy;have hh:=((aT _ _).1 (cf hy).2.2).1;unfold dU at hh;unfold gx at hn;have:y.k=3\/y.k=9\/y.k=10\/y.k=4\/y.k=7\/y.k=8\/y.k=5\/y.k=1\/y.k=2\/y.k=11:=oM
 rcases this with e|e|e|e|e|e|e|e|e|e
 ·rw[e,iZ (by rw[e];rfl) (.inl rfl)];have:=dJ (cF 3).n y.n;have h1:(cF 3).n=-9223372036854775808:=rfl;omega
 ·rw[e,iZ (by rw[e];rfl) (.inr (.inl rfl))];have:=dJ (cF 9).n y.n;have h1:(cF 9).n=0:=rfl;omega
 ·rw[e,iZ (by rw[e];rfl) (.inr (.inr rfl))];have:=dJ (cF 10).n y.n;have h1:(cF 10).n=0:=rfl;omega
 ·rw[e,fy (by rw[e];rfl) (.inl rfl)];exact ox _
 ·rw[e,fy (by rw[e];rfl) (.inr (.inl rfl))];exact ox _
 ·rw[e,fy (by rw[e];rfl) (.inr (.inr rfl))];refine pf 12 _ ?_;have:y.t.size=12:=oM
  exact this
 ·rw[e,qH (by rw[e];rfl) rfl];exact GQ _
 all_goals
  rw[e,fM (by rw[e];rfl) dE dE dE dE dE dE dE dE];omega
theorem xi{y:aC}(hy:aJ y=true)(hn:gx y.n)(h6:y.k≠6):aZ (bA y.k).lo y<=0/\aq (y,false) ((bA y.k).hi,(bA y.k).hin)<0/\aJ (bA y.k).lo=true/\aJ (bA y.k).hi=true:=by
 have hk:=dm hy;have hh:=((aT _ _).1 (cf hy).2.2).1;unfold dU at hh;have hl:=GS hy hn h6;have vl:=mG hk;unfold gx at hn;have e0:ByteArray.empty.size=0:=rfl;have:(y.k=3\/y.k=10)\/y.k=9\/(y.k=4\/y.k=5\/y.k=7\/y.k=8)\/(y.k=1\/y.k=2\/y.k=11):=oM
 rcases this with e|e|e|e
 ·rw[zZ e];refine⟨hl,ow (x:=y) (y:=.mk y.k 9223372036854775807 empty [] []) ?_,vl,nQ ?_⟩
  ·rw[iZ (x:=y) (y:=.mk y.k 9223372036854775807 empty [] []) rfl oM];have:=dJ y.n (aC.mk y.k 9223372036854775807 empty [] []).n;have h1:(aC.mk y.k 9223372036854775807 empty [] []).n=9223372036854775807:=rfl;omega
  ·rcases e with e|e<;>rw[e]<;>unfold dU<;>simp[e0]
 ·rw[e] at hl vl ⊢;rw[xD];refine⟨hl,ow (x:=y) (y:=.mk 9 1 empty [] []) ?_,vl,nQ ?_⟩
  ·rw[iZ e (.inr (.inl e))];have:=dJ y.n (aC.mk 9 1 empty [] []).n;have h1:(aC.mk 9 1 empty [] []).n=1:=rfl;omega
  ·unfold dU;simp[e0]
 ·rw[xE oM];refine⟨hl,sF (x:=y) (y:=cF (y.k+1)) ?_,vl,mG oM⟩
  have h1:(cF (y.k+1)).k=y.k+1:=by
   obtain⟨n,t,h,_⟩:=ra (y.k+1);rw[h];rfl
  rw[bX oM,h1];have:=dJ y.k (y.k+1);omega
 ·rw[za oM]
  have h1:(cF y.k).k=y.k:=by
   obtain⟨n,t,h,_⟩:=ra y.k;rw[h];rfl
  refine⟨hl,ow (x:=y) (y:=cF y.k) ?_,vl,vl⟩;rw[fM h1.symm oM oM oM oM oM oM oM oM];omega
theorem If{y:aC}(hy:aJ y=true)(hn:gx y.n)(h6:y.k≠6):ei aq (y,false) (aV [bA y.k]):=by
 obtain⟨h1,h2,h3,h4⟩:=xi hy hn h6;refine kj h3 h4 ?_ h2;show aq ((bA y.k).lo,!(bA y.k).li) (y,false)<=0;rw[(gG y.k).2.2];exact mf h1
theorem KN{x y:aC}(ho:op=4\/op=5\/op=6\/op=7)(hy:aJ y=true)(hx:aJ x=true)(hn:gx y.n)(h6:y.k≠6)(hk:y.k=x.k)(h:it op (aZ y x)=true):ei aq (y,false) (aV [pm op x]):=by
 obtain⟨h1,h2,h3,h4⟩:=xi hy hn h6;have ha:=iS y x;rw[hk] at h1 h2 h3 h4;rcases ho with rfl|rfl|rfl|rfl
 ·have h':0<aZ y x:=by simpa[it] using h
  exact kj (x:=pm 4 x) hx h4 (Int.le_of_lt (sF (x:=x) (y:=y) (b:=true) (c:=false) oM)) h2
 ·have h':0<=aZ y x:=by simpa[it] using h
  exact kj (x:=pm 5 x) hx h4 (mf (x:=x) (y:=y) (b:=false) oM) h2
 ·have h':aZ y x<0:=by simpa[it] using h
  refine kj (x:=pm 6 x) h3 hx ?_ (sF h');show aq ((bA x.k).lo,!(bA x.k).li) (y,false)<=0;rw[(gG x.k).2.2];exact mf h1
 ·have h':aZ y x<=0:=by simpa[it] using h
  refine kj (x:=pm 7 x) h3 hx ?_ (ow h');show aq ((bA x.k).lo,!(bA x.k).li) (y,false)<=0;rw[(gG x.k).2.2];exact mf h1
theorem Ig{p:ByteArray}(h:kg s p=true):∃r,eI s=eI p++r:=by
 unfold kg at h;simp only[Ov,Pm,QR] at h;obtain⟨h1,h2⟩:=h;have h3:=nl.1 h2;refine⟨(eI s).drop p.size,?_⟩
 have:eI p=(eI s).take p.size:=by
  have h4:eI p=eI (s.extract 0 p.size):=by rw[h3]
  rw[h4];unfold eI;rw[ByteArray.data_extract,Array.toList_extract,Sv,<-List.map_take];simp
 rw[this];exact(Oh _ _).symm
theorem oR(s:ByteArray):fN (eI s):=fun z hz=>by
 unfold eI at hz;obtain⟨b,_,rfl⟩:=PK.1 hz;have:=b.toNat_lt;omega
theorem KP{x y:aC}(hx:aJ x=true)(hx4:x.k=4)(hy4:y.k=4)(h:kg y.t x.t=true):ei aq (y,false) (aV [(nI x).1]):=by
 obtain⟨r,hr⟩:=Ig h
 have lo:aq (x,false) (y,false)<=0:=by
  refine mf ?_;rw[fy (by rw[hx4,hy4]) (.inl hx4),<-fl x.t,<-fl y.t,jC (oR _) (oR _),hr]
  have:∀l:List Int,bF l (l++r)<=0:=by
   intro l
   induction l with
   | nil=>exact qX _
   | cons a q ih=>rw[Of,bk];exact ih
  exact this _
 have v5:aJ (jZ 5)=true:=mG (k:=5) oM
 have up5:aq (y,false) (jZ 5,false)<0:=sF (by
  rw[bX (by rw[hy4];decide),hy4]
  decide)
 unfold nI;split
 ·rename_i s hs
  split
  ·rename_i hv
   refine kj (x:=⟨x,.mk 4 0 s [] [],true,false⟩) hx hv lo (sF ?_);rw[td] at hs;obtain⟨u,hu,rfl⟩:=PT.1 hs;rw[fy hy4 (.inl hy4)];show bh y.t (strOfNums u)<0;rw[<-fl y.t,jC (oR _) (mR (oR _) hu),hr];exact iT hu r
  ·exact kj (x:=⟨x,jZ 5,true,false⟩) hx v5 lo up5
 ·exact kj (x:=⟨x,jZ 5,true,false⟩) hx v5 lo up5
theorem ElRs.all{x:aC}:∀{l:List aj} {bs:List Bool},iw.ElRs l x bs->bs.all id=true->∀k∈l,iw k x true
 | [],_,_,_,k,hk=>by cases hk
 | a::r,bs,h,hb,k,hk=>by
  simp only[iw.ElRs] at h;obtain⟨b,q,rfl,h1,h2⟩:=h;simp only[Sc,Ov,id] at hb;rcases PB.1 hk with e|hk
  ·rw[e,<-hb.1];exact h1
  ·exact ElRs.all h2 hb.2 k hk
theorem ElRs.one{x:aC}:∀{l:List aj} {bs:List Bool},iw.ElRs l x bs->bs.any id=true->∃k∈l,iw k x true
 | [],bs,h,hb=>by simp only[iw.ElRs] at h;subst h;cases hb
 | a::r,bs,h,hb=>by
  simp only[iw.ElRs] at h;obtain⟨b,q,rfl,h1,h2⟩:=h;cases b
  ·obtain⟨k,hk,hr⟩:=ElRs.one h2 (by simpa using hb);exact⟨k,by simp[hk],hr⟩
  ·exact⟨a,by simp,h1⟩
end
structure Lu(x:aC)(l:List ByteArray)(vs:List aC):Prop where
 ne:vs≠[]
 val:∀v∈vs,aJ v=true
 nums:∀v∈vs,gx v.n
 hit:∀f:aC->Bool,(∀z,z.k=6->f z=false)->(ch x l).any f=true->∃v∈vs,v.k≠6/\(f v=true\/(f aC.zero=true/\v=cR))
section
variable {k b n g o m q size S:Nat} {w w':World} {t:TypeId} {x y d:Int} {l r ys:List ByteArray} {v:Value} {s:ByteArray} {ha:Bool} {F G:Nat -> Prop}
theorem Lu.key{x y:aC}(hk:cT x l=some y)(hy:aJ y=true)(hn:gx y.n):Lu x l [y]:=by
 refine⟨by simp,fun v hv=>by rw[Ox.1 hv];exact hy,fun v hv=>by rw[Ox.1 hv];exact hn,fun f _ h=>⟨y,by simp,rm hk,?_⟩⟩;rcases GB hk with e|⟨e,e2⟩
 ·rw[e] at h;left;simpa using h
 ·rw[e] at h;right;exact⟨by simpa using h,e2⟩
theorem uB{v z:aC}(h:v.k≠6)(hz:z.k=6):lD v z=false:=by
 have h1:aZ z v≠0:=by
  rw[bX oM];have:=dJ z.k v.k;omega
 simp only[lD,Bool.or_eq_false_iff,SU,PJ];exact⟨h1,.inr oM⟩
theorem GU{v y:aC}(hv:aJ v=true)(hy:aJ y=true)(h:lD v y=true\/(lD v aC.zero=true/\y=cR)):ei aq (y,false) (aV [eZ v]):=by
 have hkv:=dm hv;have hky:=dm hy;have hz:aC.zero.k=0:=rfl;rcases h with h|⟨h,rfl⟩
 ·simp only[lD,TN,Ov,QR] at h;rcases h with h|h
  ·exact JJ hv (by have:=iS y v;omega)
  ·omega
 ·simp only[lD,TN,Ov,QR] at h;rcases h with h|h
  ·rw[bX oM] at h;have:=eg.1 h;omega
  ·have e:v.k=cR.k:=h.1;have e2:cR.k=2:=rfl;exact JJ hv (fM e oM oM oM oM oM oM oM oM)
theorem uC{vs:List aC}(ha:∃v∈vs,fe (v,false)):∀{rs:List iz},(∀r∈rs,∃v∈vs,r.1 (v,false))->∃v∈vs,(fO rs).1 (v,false)
 | [],_=>ha
 | r::rs,h=>by
  unfold fO;split
  ·exact uC ha fun x hx=>h x (by simp[hx])
  ·exact h r sM
theorem KQ{x:aC}{vs:List aC}(H:Lu x l vs):∀{p:aj},oZ p->iw p x true->∃v∈vs,(gN l p).1 (v,false):=by
 have hz:aC.zero.k=0:=rfl
 have ha:∃v∈vs,fe (v,false):=by
  obtain⟨v,r,e⟩:=List.exists_cons_of_ne_nil H.ne;have hv:v∈vs:=by rw[e];simp
  exact⟨v,hv,KM (H.val v hv)⟩
 intro p
 induction p using aj.ind with
 | h p ih=>
  intro hv hel;have V:=hv.open;have E:=hel.open;by_cases h20:p.op=20
  ·rw[ui h20];obtain⟨bs,hb,hal⟩:=E.all h20
   have hr:∀r∈p.kids.map (gN l),∃v∈vs,r.1 (v,false):=by
    intro r hr;obtain⟨k,hk,rfl⟩:=PK.1 hr;exact ih k hk (V.kids (.inl h20) k hk) (ElRs.all hb hal.symm k hk)
   unfold rB;split
   ·rename_i r e;exact hr r (by rw[e];simp)
   ·exact uC ha hr
  ·by_cases h21:p.op=21
   ·rw[zP h21];obtain⟨bs,hb,hal⟩:=E.one h21;obtain⟨k,hk,hr⟩:=ElRs.one hb hal.symm;unfold Cu;split
    ·exact ha
    ·obtain⟨v,hv,hh⟩:=ih k hk (V.kids (.inr h21) k hk) hr;exact⟨v,hv,_,PK.2 ⟨k,hk,rfl⟩,hh⟩
   ·by_cases hp:p.path.xs=l
    ·rw[rE h20 h21 hp];have ho:p.op=2\/(p.op=4\/p.op=5\/p.op=6\/p.op=7)\/p.op=8\/p.op=16\/p.op=11\/(p.op≠2/\p.op≠4/\p.op≠5/\p.op≠6/\p.op≠7/\p.op≠8/\p.op≠16/\p.op≠11):=oM
     rcases ho with ho|ho|ho|ho|ho|ho
     ·have va:=V.arg (.inl ho);have e:=E.eq ho;rw[hp] at e;rw[ho];by_cases h6:p.arg.2.k=6
      ·rw[dp (te h6)];exact ha
      ·rw[dD (xB h6)];obtain⟨v,hv,_,hh⟩:=H.hit _ (fun z hz=>uB h6 hz) e.symm;exact⟨v,hv,GU va (H.val v hv) hh⟩
     ·have va:=V.arg (.inr oM);have e:=E.ord ho;rw[hp] at e;by_cases h6:p.arg.2.k=6
      ·rw[dp (rX ho h6)];exact ha
      ·rw[dD (tf ho h6)];have hka:=dm va;obtain⟨v,hv,hv6,hh⟩:=H.hit _ (fun z hz=>by simp only[iE,SU,PJ];left;omega) e.symm;refine⟨v,hv,?_⟩;rcases hh with h|⟨h,_⟩
       ·simp only[iE,Ov,QR] at h;exact KN ho (H.val v hv) va (H.nums v hv) hv6 h.1 h.2
       ·simp only[iE,Ov,QR] at h;omega
     ·have vas:=V.args ho;have e:=E.isin ho;rw[hp] at e;rw[ho];by_cases h6:∃z∈p.args.xs.map Prod.snd,z.k=6
      ·rw[dp (tg h6)];exact ha
      ·rw[dD (xC h6)];obtain⟨a,hma,hh⟩:=RX.1 e.symm;have ham:a.2∈p.args.xs.map Prod.snd:=PK.2 ⟨a,hma,rfl⟩;obtain⟨v,hv,_,hh2⟩:=H.hit _ (fun z hz=>uB (fun e6=>h6 ⟨a.2,ham,e6⟩) hz) hh;exact⟨v,hv,Ie (PK.2 ⟨a.2,ham,rfl⟩) (GU (vas a hma) (H.val v hv) hh2)⟩
     ·have va:=V.arg oM;have v4:=V.text ho;have e:=E.pre ho;rw[hp] at e;rw[ho,dD mc];obtain⟨v,hv,hv6,hh⟩:=H.hit _ (fun z hz=>by simp only[SU,PJ];left;omega) e.symm;refine⟨v,hv,?_⟩;rcases hh with h|⟨h,_⟩
      ·simp only[Ov,QR] at h;exact KP va v4 h.1 h.2
      ·simp only[Ov,QR] at h;omega
     ·have vn:=V.kind ho;have e:=E.kind ho;rw[hp] at e;rw[ho];by_cases h6:p.n=6
      ·rw[h6,dp pU];exact ha
      ·rw[dD (rZ h6)];obtain⟨v,hv,hv6,hh⟩:=H.hit _ (fun z hz=>by rw[PJ];omega) e.symm;refine⟨v,hv,?_⟩;rcases hh with h|⟨h,_⟩
       ·have h':v.k=p.n:=by simpa using h
        rw[<-h'];exact If (H.val v hv) (H.nums v hv) hv6
       ·have h':aC.zero.k=p.n:=by simpa using h
        omega
     ·rw[dp (pV ho)];exact ha
    ·rw[rF h20 h21 hp];exact ha
def yR(t:ByteArray)(r:B2):Prop:=¬BG t r.1/\(r.2=empty\/BG t r.2)
def Ih(r:B2):Prop:=r.2=empty\/BG r.1 r.2
theorem Bk{t:ByteArray}:¬BG t empty:=by
 have h1:bh empty t<=0:=ox _;have:=gC t empty;show ¬bh t empty<0;omega
theorem Dk{out:List B2}{r:B2}(ho:∀q∈out,Ih q)(hr:Ih r):(∀q∈kx empty out r,Ih q)/\∀t,((∃q∈out,yR t q)\/yR t r)->∃q∈kx empty out r,yR t q:=by
 have app:(∀q∈out++[r],Ih q)/\∀t,((∃q∈out,yR t q)\/yR t r)->∃q∈out++[r],yR t q:=by
  refine⟨fun q hq=>?_,fun t ht=>?_⟩
  ·rcases OP.1 hq with hq|hq
   ·exact ho q hq
   ·rw[Ox.1 hq];exact hr
  ·rcases ht with⟨q,hq,hc⟩|hc
   ·exact⟨q,by simp[hq],hc⟩
   ·exact⟨r,by simp,hc⟩
 unfold kx;cases hl:out.getLast? with
 | none=>exact app
 | some q=>
  obtain⟨d,rfl⟩:=St.1 hl;simp only;split
  ·rename_i hc
   rw[Rk];have hq:BG q.1 q.2:=(ho q sM).resolve_left hc.1;refine⟨fun z hz=>?_,fun t ht=>?_⟩
   ·rcases OP.1 hz with hz|hz
    ·exact ho z (by simp[hz])
    ·rw[Ox.1 hz];exact hr.imp id fun k=>qZ.tr hq (hc.2▸k)
   ·rcases ht with⟨z,hz,hcz⟩|hcz
    ·rcases OP.1 hz with hz|hz
     ·exact⟨z,by simp[hz],hcz⟩
     ·rw[Ox.1 hz] at hcz;refine⟨(q.1,r.2),by simp,hcz.1,hr.imp id fun k=>?_⟩;exact qZ.tr (hcz.2.resolve_left hc.1) (hc.2▸k)
    ·refine⟨(q.1,r.2),by simp,fun k=>hcz.1 ?_,hcz.2⟩;exact qZ.tr k (hc.2▸hq)
  ·exact app
theorem uD:∀(l out:List B2),(∀q∈out,Ih q)->(∀q∈l,Ih q)->∀t,((∃q∈out,yR t q)\/∃q∈l,yR t q)->∃q∈l.foldl (kx empty) out,yR t q
 | [],out,_,_,t,h=>by
  rcases h with h|⟨q,hq,_⟩
  ·exact h
  ·cases hq
 | r::l,out,ho,hl,t,h=>by
  obtain⟨h1,h2⟩:=Dk ho (hl r sM);refine uD l _ h1 (fun q hq=>hl q (by simp[hq])) t ?_;rcases h with h|⟨q,hq,hc⟩
  ·exact .inl (h2 t (.inl h))
  ·rcases PB.1 hq with e|hq
   ·exact .inl (h2 t (.inr (e▸hc)))
   ·exact .inr ⟨q,hq,hc⟩
theorem xj{l:List B2}(hl:∀q∈l,Ih q){t:ByteArray}(h:∃q∈l,yR t q):∃q∈fw empty l,yR t q:=
 uD l [] (fun q hq=>by cases hq) hl t (.inr h)
theorem xl:∀l r:List Int,bF l (l++r)<=0
 | [],r=>qX r
 | x::l,r=>by rw[Of,bk];exact xl l r
theorem GV{s:cx×cx}{y:aC}{E:List Int}(hy:VO (y,false))(hE:fN E)(h1:VO s.1)(h2:VO s.2)(k1:aq s.1 (y,false)<=0)(k2:aq (y,false) s.2<0):yR (strOfNums (bR y++E)) (fY s):=by
 have hR:fN (bR y++E):=hy.rng.app hE;refine⟨?_,?_⟩
 ·show ¬BG _ (ii s.1);unfold ii;split
  ·exact Bk
  ·show ¬bh _ _<0;rw[jC hR h1.NS]
   have a1:bF (dy s.1) (bR y)<=0:=by
    by_cases h0:aq s.1 (y,false)=0
    ·rw[dF.eq s.1 (y,false) h1.1 hy.1 h0];show bF (bR y) (bR y)<=0;rw[Cx];omega
    ·exact(qY h1 hy oM).1
   have a2:=(qB _ _ _ a1 (xl (bR y) E)).1;have a3:=oh (bR y++E) (dy s.1);omega
 ·obtain⟨s1,z,c⟩:=s;show iC (z,c)=_\/BG _ (iC (z,c));replace k2:aq (y,false) (z,c)<0:=k2;replace h2:VO (z,c):=h2;unfold iC;split
  ·exact .inl rfl
  ·right;show bh _ _<0;rw[jC hR h2.NS];obtain⟨u,hu⟩:=h2.after;have gu:=iT hu [];rw[Om] at gu
   try simp only at hu gu
   by_cases h0:aZ y z=0
   ·have e:y=z:=mO (nm:=aM) y z (jX hy.1).2.2 (jX h2.1).2.2 h0;subst e;rw[fj (a:=(y,false)) (b:=(y,c)) h0] at k2;cases c
    ·exact absurd k2 (show ¬yP false false<0 by decide)
    ·unfold dy;simp only[Rr,hu,Qe];exact iT hu E
   ·rw[kX (a:=(y,false)) (b:=(z,c)) h0] at k2
    have h3:bF (bR y++E) (bR z)<0:=by
     have:=tZ y z hy.or h2.or E [];rw[Om] at this;rw[this,FH h0];exact k2
    unfold dy;cases c
    ·simp only[Qv,TQ];exact h3
    ·simp only[Rr,hu,Qe];exact nE h3 oM
theorem Ii{S:cx->Prop}{m:List (cx×cx)}(g:cp S)(h:jw S m):∀q∈m.map fY,Ih q:=fun q hq=>(CX g h).ne q hq
theorem Bm(n:Int):Ih (kS n):=by
 obtain⟨t,ht⟩:=qb n;refine .inr ?_;show bh (strOfNums (gg n)) (strOfNums ((bJ (gg n)).getD []))<0;rw[ht,Qe,jC (qa n) (mR (qa n) ht)];have:=iT ht []
 rwa [Om] at this
theorem GW(n:Int):yR (strOfNums (gg n)) (kS n):=by
 refine⟨qZ.irr _,?_⟩;exact Bm n
theorem KU{ks:List Od}{x:aC}{ys:List aC}{q:Od}{S:cx->Prop}{m:List (cx×cx)}{L:List B2}(hq:ks[0]?=some q)(hv:jA ks x=some ys)(nx:bS x)(h1:ha=true->ks.length=1)(hS:∀y,cT x q.p=some y->aJ y=true->bS y->S (y,false))(g:cp S)(hm:jw S m)(hr:Iz ha m L):∃r∈L,yR (nD ks ha x).1 r:=by
  obtain⟨_,vx,ax⟩:=qV hv;have hval:=kP vx nx ks ys ax;cases ks with
  | nil=>cases hq
  | cons q' r=>
  obtain rfl:q'=q:=by simpa using hq
  rw[dj] at ax;cases hk:cT x q'.p with
  | none=>rw[hk] at ax;cases ax
  | some y=>
  rw[hk] at ax;simp only at ax;obtain⟨zs,hzs,rfl⟩:=PT.1 ax;obtain⟨vy,ny⟩:=hval y sM;obtain⟨s,hs,k1,k2⟩:=(hm.2 (y,false)).2 (hS y hk vy ny);obtain⟨s1,s2,s3⟩:=g.nf hm hs;have hy:VO (y,false):=⟨vy,ny⟩;rw[mQ hv];rcases hr with⟨rfl,Z,hz,rfl⟩|⟨rfl,rfl,_⟩|⟨rfl,hp,Z,hz,rfl⟩
  ·have hal:dr (y::zs)=true:=by
    unfold dr;rw[Qd];exact fun z hz=>kQ (hval z hz).1
   rw[tF,jh hal];have e:cP (y::zs)=bR y++cP zs:=by simp[cP]
   rw[e];have hE:fN (cP zs):=BA zs fun z hz=>(jX (hval z (by simp[hz])).1).2.2;refine xj (fun q hq=>Ii g hm q (hz.1.mem_iff.1 ((lF q).1 hq))) ⟨fY s,(lF _).2 (hz.1.mem_iff.2 (PK.2 ⟨s,hs,rfl⟩)),?_⟩;exact GV hy hE s1 s2 k1 k2
  ·exact⟨_,Ox.2 rfl,Bk,.inl rfl⟩
  ·have h0:=hp s hs
   have c1:aZ s.1.1 y<=0:=by
    by_cases e:aZ s.1.1 y=0
    ·omega
    ·rw[kX (a:=s.1) (b:=(y,false)) e] at k1;exact k1
   have c2:aZ y s.2.1<=0:=by
    by_cases e:aZ y s.2.1=0
    ·omega
    ·rw[kX (a:=(y,false)) (b:=s.2) e] at k2;have:aZ y s.2.1<0:=k2;omega
   have c3:aZ s.1.1 y=0:=by
    have t:=Aq s.1.1 y s.2.1;unfold TR at t;omega
   have e:s.1.1=y:=mO (nm:=aM) _ _ (jX s1.1).2.2 (jX vy).2.2 c3
   have hz0:zs=[]:=by
    have a:=CQ hv;have b:=h1 rfl;simp only[OZ] at a b;exact OL oM
   subst hz0;have e2:ig true [y]=[ie y]:=rfl;have hvi:dx (ie y)=true:=kQ (JS y);rw[e2,jh (by simp[dr,hvi])]
   have e3:cP [ie y]=gg (cL y):=by
    have:cP [ie y]=bR (ie y):=by simp[cP]
    rw[this,dG];rfl
   rw[e3];refine xj (fun q hq=>?_) ⟨kS (cL y),(lF _).2 (hz.1.mem_iff.2 (PK.2 ⟨cL y,PK.2 ⟨s,hs,by rw[e]⟩,rfl⟩)),GW _⟩;obtain⟨n,_,rfl⟩:=PK.1 (hz.1.mem_iff.1 ((lF q).1 hq));exact Bm n
def ob(F:Nat->Prop)(w:World)(d:VC):Prop:=∃y:aC,RV F w d y/\(y.k=0->y=aC.zero)
section
variable {F G:Nat->Prop} {w w':World} {d:VC}
theorem ob.step(h:ob F w d)(hb:Bl w w'):ob F w' d:=by obtain⟨y,h1,h2⟩:=h;exact⟨y,h1.step hb,h2⟩
theorem ob.alloc(h:ob F w d)(o:Obj):ob F (w.alloc o) d:=h.step ((OG _ _).alloc (qL) o)
theorem ob.mono(h:ob F w d)(hk:∀b,F b->G b):ob G w d:=by obtain⟨y,h1,h2⟩:=h;exact⟨y,h1.mono hk,h2⟩
theorem ob.lt(h:ob F w d):ob (fun b=>F b/\b<w.heap.size) w d:=by obtain⟨y,h1,h2⟩:=h;exact⟨y,h1.lt,h2⟩
end
def eU(F:Nat->Prop)(w:World)(e:Ending)(w':World):Prop:=∃d:VC,e=.returned d.val/\ob (fun b=>F b\/w.heap.size<=b) w' d/\Bl w w'
def kG(w:World)(e:Ending)(w':World):Prop:=∃(k n:Int) (t:ByteArray),e=.returned (bO k n t).val/\t.size<=aF/\k≠0/\Bl w w'
theorem Bn(k n:Int){t:ByteArray}(h:t.size<=aF):RV G w (bO k n t) (.mk k n t [] []):=
 pw.shut ⟨rfl,rfl,rfl,h,rfl,qL,by show 0*80<=aF;decide,fun h=>absurd h (by show ¬0<0;omega),rfl,qL,by show 0*96<=aF;decide,fun h=>absurd h (by show ¬0<0;omega)⟩
end
theorem kG.a{F:Nat->Prop}{w w':World}{e:Ending}(h:kG w e w'):eU F w e w':=by
 obtain⟨k,n,t,rfl,ht,hk,hb⟩:=h;exact⟨_,rfl,⟨_,Bn k n ht,fun h=>absurd h hk⟩,hb⟩
section
variable {k size:Nat} {t:TypeId} {x y d:Int} {l:List ByteArray} {v:Value}
def gq(y:aC):Prop:=y=aC.zero\/aJ y=true
theorem Dl:∀l:List aC,l.length<=bE l:=by
 intro l
 induction l with
 | nil=>exact qL
 | cons a r ih=>have:=fB a;simp only[OZ,bE];omega
theorem AP{x:aC}(h5:x.k=5):x.parts=x.d.map bf.v:=by rw[aC.parts,OQ oM,OW h5]
theorem AQ{x:aC}(h6:x.k=6):x.parts=x.l:=by rw[aC.parts,OW h6]
theorem nR{y:aC}(h:aJ y=true):1<=y.k/\y.t.size<=4096/\y.l.length<=1024/\y.d.length<=1024:=by
 obtain⟨h1,_,h3⟩:=cf h;have hh:=((aT _ _).1 h3).1;have hp:=Dl y.parts;have hs:=dh y
 have hl:y.l.length<=y.size:=by
  rcases hh.2.2.1 with k|k
  ·rw[AQ k] at hp;rw[AQ k] at hs;omega
  ·omega
 have hd:y.d.length<=y.size:=by
  rcases hh.2.2.2.1 with k|k
  ·rw[AP k,Oe] at hp;rw[AP k] at hs;omega
  ·omega
 have h2:=hh.2.1;refine⟨?_,?_,by omega,by omega⟩
 ·rcases hh.2.2.2.2 with k|k|k|k|⟨k,_⟩|⟨k,_⟩|⟨k,t,_⟩|⟨k,t⟩|⟨k,t⟩|k|k<;>omega
 ·rcases hh.2.2.2.2 with k|k|k|k|⟨k,_⟩|⟨k,_⟩|⟨k,t,_⟩|⟨k,t⟩|⟨k,t⟩|k|k<;>omega
theorem GX{x y:aC}(h:aJ x=true)(hy:y∈x.l):aJ y=true:=by
 obtain⟨h1,h2,h3⟩:=cf h;have hh:=(aT _ _).1 h3
 have h6:x.k=6:=by
  rcases hh.1.2.2.1 with k|k
  ·exact k
  ·rw[OL k] at hy;cases hy
 have hp:y∈x.parts:=by rw[AQ h6];exact hy
 exact jv (by have:=cy hp;omega) (by have:=iG hp;omega) (hh.2.1 y hy)
theorem Dm{x:aC}{f:bf}(h:aJ x=true)(hf:f∈x.d):aJ f.v=true:=by
 obtain⟨h1,h2,h3⟩:=cf h;have hh:=(aT _ _).1 h3
 have h5:x.k=5:=by
  rcases hh.1.2.2.2.1 with k|k
  ·exact k
  ·rw[OL k] at hf;cases hf
 have hp:f.v∈x.parts:=by rw[AP h5];exact PD hf
 exact jv (by have:=cy hp;omega) (by have:=iG hp;omega) (hh.2.2.1 f hf)
section
variable {y:aC}
theorem gq.k0(h:gq y)(h0:y.k=0):y=aC.zero:=by
 rcases h with h|h
 ·exact h
 ·have:=(nR h).1;omega
theorem gq.len(h:gq y):y.t.size<=4096/\y.l.length<=1024/\y.d.length<=1024:=by
 rcases h with rfl|h
 ·exact⟨by decide,by decide,by decide⟩
 ·exact(nR h).2
theorem gq.el(h:gq y){x:aC}(hx:x∈y.l):gq x:=by
 rcases h with rfl|h
 ·cases hx
 ·exact .inr (GX h hx)
theorem gq.OB(h:gq y){f:bf}(hf:f∈y.d):gq f.v:=by
 rcases h with rfl|h
 ·cases hf
 ·exact .inr (Dm h hf)
end
end
structure ff(F:Nat->Prop)(w:World)(A:Option Addr)(n c:Nat)(ps:List PV):Prop where
 sr:SR 5 bD w A n c ps
 rv:∀p∈ps,RV F w p.1 p.2
 ok:∀p∈ps,gq p.2
 few:n<=256
section
variable {k b n m i c q off size K:Nat} {w w':World} {a d:Int} {s:ByteArray} {A:Option Addr} {F:Nat -> Prop}
theorem ff.step{ps:List PV}(h:ff F w A n c ps)(hb:Bl w w'):ff F w' A n c ps:=⟨h.sr.step hb,fun p hp=>(h.rv p hp).step hb,h.ok,h.few⟩
theorem ff.at{ps:List PV}(h:ff F w A n c ps)(hn:0<n):∃b off,A=some ⟨b,off,none⟩/\b<w.heap.size/\∀i,i<n->∃p,ps[i]?=some p/\aO w b (off+i*5) p.1/\RV F w p.1 p.2/\gq p.2:=by
 obtain⟨b,off,e,hb,hel⟩:=h.sr.el hn;refine⟨b,off,e,hb,fun i hi=>?_⟩;obtain⟨p,hp⟩:∃p,ps[i]?=some p:=⟨_,OH (by have:=h.sr.ln;omega)⟩;exact⟨p,hp,nH fun j v hj=>hel i p hp j v hj,h.rv p (OJ hp),h.ok p (OJ hp)⟩
theorem iu(b:Bool)(w:World):Calls prog 262 #[.bool b] w (kG w):=by
 cases b
 ·go_enter func262,ntmps262;go_wp2_with fail;exact OO (aD rfl _ _ _ rfl _ (bO 9 0 empty) (aO.Mn (aG.new _ _ _))) rfl ⟨9,0,_,rfl,by decide,by decide,(OG _ _).alloc (qL) _⟩
 ·go_enter func262,ntmps262;go_wp2_with fail;exact OO (aD rfl _ _ _ rfl _ (bO 9 1 empty) (aO.Mn (aG.new _ _ _))) rfl ⟨9,1,_,rfl,by decide,by decide,(OG _ _).alloc (qL) _⟩
theorem fQ(s:ByteArray)(w:World)(hs:s.size<=aF):Calls prog 264 #[.string s] w (kG w):=by
 go_enter func264,ntmps264;go_wp2_with fail;exact OO (aD rfl _ _ _ rfl _ (bO 4 0 s) (aO.Mn (aG.new _ _ _))) rfl ⟨4,0,s,rfl,hs,by decide,(OG _ _).alloc (qL) _⟩
theorem kl(d:VC)(w:World):Calls prog 259 #[d.val] w (am (fun _=>True) w):=by
 obtain⟨z2,hz2⟩:∃z,(d.k==1)=z:=⟨_,rfl⟩;obtain⟨z3,hz3⟩:∃z,(d.k==9)=z:=⟨_,rfl⟩;obtain⟨z4,hz4⟩:∃z,(d.k==3)=z:=⟨_,rfl⟩;obtain⟨z5,hz5⟩:∃z,(d.n==0)=z:=⟨_,rfl⟩;go_enter func259,ntmps259;go_upto_region 1 with fail
 refine ml d.arr 29 ?_;intro wa B0 BE;obtain⟨a0,a1,a2,a3,a4⟩:=aO.Mp B0.out;by_cases h1:d.k>2
 ·rcases(show(z3=true/\z5=true/\z2=true)\/(z3=true/\z5=true/\z2=false)\/(z3=true/\z5=false)\/(z3=false/\z4=true/\z5=true/\z2=true)\/(z3=false/\z4=true/\z5=true/\z2=false)\/(z3=false/\z4=true/\z5=false)\/(z3=false/\z4=false) by clear hz2 hz3 hz4 hz5 h1;revert z2 z3 z4 z5;decide) with⟨rfl,rfl,rfl⟩|⟨rfl,rfl,rfl⟩|⟨rfl,rfl⟩|⟨rfl,rfl,rfl,rfl⟩|⟨rfl,rfl,rfl,rfl⟩|⟨rfl,rfl,rfl⟩|⟨rfl,rfl⟩
  all_goals
   go_wp2;go_ret;exact am.of trivial BE.out
 ·cases z2
  all_goals
   go_wp2;go_ret;exact am.of trivial BE.out
theorem fU(ps:List PV)(K:Int)(A:Option Addr)(m c:Nat)(w:World)(hs:SR 5 bD w A m c ps)(hm:m<=256):
 Calls prog 300 #[.slice A m c,.int .i64 K] w (am (fun b=>b=true->∀p∈ps,p.1.k=K) w):=by
 have HS:=qD hs;clear hs;go_enter func300,ntmps300;go_upto_region 2 with fail
 go_loopw [5] (fun v wr=>∃i:Nat,i<=m/\v=.int .i64 i/\(∀p∈ps.take i,p.1.k=K)/\Bl w wr) (fun v _=>m-(intOf v).toNat)
 ·exact⟨0,ON _,rfl,by simp,OG _ _⟩
 case round=>
  obtain⟨i,hi,rfl,ha,hb⟩:=hrel;have HA:=qD ha;have HB:=qD hb;clear ha hb;by_cases hlt:i<m
  ·obtain⟨p,hp⟩:∃p,ps[i]?=some p:=⟨_,OH (by have:=HS.out.ln;omega)⟩;have HP:=qD hp;obtain⟨eb,eo,rfl,hlb,hva⟩:=(HS.out.step HB.out).Mw hp;obtain⟨a0,a1,a2,a3,a4⟩:=hva;have i0:(0:Int)<=(i:Int):=oM
   have i1:(i:Int)<(m:Int):=oM
   clear hp;by_cases hk:p.1.k=K
   ·have hkb:(p.1.k != K)=false:=by simpa using hk
    have HN:Hid (∀q∈ps.take (i+1),q.1.k=K):=qD fun q hq=>by
     rw[take_snoc' HP.out] at hq;rcases OP.1 hq with hq|hq
     ·exact HA.out q hq
     ·rw[Ox.1 hq];exact hk
    clear hk;go_wp2_with fail;go_roundw
    ·exact⟨i+1,by omega,by go_num,HN.out,HB.out⟩
    ·exact iO
   ·have hkb:(p.1.k != K)=true:=by simpa using hk
    clear hk;go_wp2;go_ret;exact am.of (fun h=>absurd h dE) HB.out
  ·have HF:Hid (∀p∈ps,p.1.k=K):=qD (by
    have:=HA.out
    rwa [OS (by have:=HS.out.ln;omega)] at this)
   go_wp2;go_ret;exact am.of (fun _=>HF.out) HB.out
theorem AR(a b:Int)(hb:b≠0):∃q:Int,∀w,Calls prog 301 #[.int .i64 a,.int .i64 b] w (Rt w (.int .i64 q)):=by
 have h0b:(b==0)=false:=by simpa using hb
 by_cases h1:b=-1
 ·subst h1;refine⟨wrap64 (-a),fun w=>?_⟩;go_enter SP,Ry;go_wp2;go_ret;exact⟨rfl,OG _ _⟩
 have h1b:(b==-1)=false:=by simpa using h1
 by_cases h2:a.tmod b=0
 ·have h2b:(a.tmod b != 0)=false:=by simpa using h2
  refine⟨wrap64 (a.tdiv b),fun w=>?_⟩;go_enter SP,Ry;go_wp2;go_ret;exact⟨rfl,OG _ _⟩
 have h2b:(a.tmod b != 0)=true:=by simpa using h2
 by_cases h3:a.tmod b<0<;>by_cases h4:b<0
 ·refine⟨wrap64 (a.tdiv b),fun w=>?_⟩;go_enter SP,Ry;go_wp2;go_ret;exact⟨rfl,OG _ _⟩
 ·refine⟨wrap64 (wrap64 (a.tdiv b)-1),fun w=>?_⟩;go_enter SP,Ry;go_wp2;go_ret;exact⟨rfl,OG _ _⟩
 ·refine⟨wrap64 (wrap64 (a.tdiv b)-1),fun w=>?_⟩;go_enter SP,Ry;go_wp2;go_ret;exact⟨rfl,OG _ _⟩
 ·refine⟨wrap64 (a.tdiv b),fun w=>?_⟩;go_enter SP,Ry;go_wp2;go_ret;exact⟨rfl,OG _ _⟩
end
structure fJ(w:World)(g:Nat)(wr:World):Prop where
 b:aG wr g 29 VC.zero.arr
 lo:w.heap.size<=g
 bel:Bl w wr
section
variable {k b n g m c size:Nat} {w w' wr:World} {t:TypeId} {op x y d:Int} {s:ByteArray} {A:Option Addr} {F:Nat -> Prop}
theorem fJ.step(h:fJ w g wr)(hb:Bl wr w'):fJ w g w':=⟨h.b.step hb,h.lo,h.bel.Ml hb⟩
theorem fJ.leaf(h:fJ w g wr)(k n:Int){t:ByteArray}(ht:t.size<=aF)(hk:k≠0):kG w (.returned (bO k n t).val) (bM wr g 0 (bO k n t)):=⟨k,n,t,rfl,ht,hk,aW h.bel h.lo 0 _⟩
theorem fJ.val{d:VC}{y:aC}(h:fJ w g wr)(hr:RV (fun b=>F b\/(w.heap.size<=b/\b≠g)) wr d y)(hF:∀b,F b->b<w.heap.size)(h0:y.k=0->y=aC.zero):eU F w (.returned d.val) (bM wr g 0 d):=
 ⟨d,rfl,⟨y,hr.Mr fun b hb _=>⟨hb.imp id And.left,bC (by
  rcases hb with hb|hb
  ·have:=hF b hb;have:=h.lo;omega
  ·exact hb.2)⟩,h0⟩,aW h.bel h.lo 0 _⟩
theorem fJ.start:fJ w w.heap.size (w.alloc (.cells VC.zero.arr 29)):=⟨aG.Mm rfl,qL,(OG _ _).alloc (qL) _⟩
theorem bt(w:World):Calls prog 34 #[] w (kG w):=(gR w).mono fun _ _ ⟨h1,h2⟩=>⟨2,0,empty,h1,by decide,by decide,h2⟩
theorem fV(n:Int)(w:World):Calls prog 30 #[.int .i64 n] w (kG w):=(kO n w).mono fun _ _ ⟨h1,h2⟩=>⟨3,n,empty,h1,by decide,by decide,h2⟩
theorem uu(op:Int)(ho:op=4\/op=6)(ps:List PV)(A:Option Addr)(m c:Nat)(w:World)(hs:ff F w A m c ps):
 Calls prog 260 #[.int .i64 op,.slice A m c] w (kG w):=by
 have HS:=qD hs;have HM:=qD hs.few;have hm:m<=256:=hs.few;have J0:Hid (fJ w w.heap.size (w.alloc (.cells VC.zero.arr 29))):=fJ.start;clear hs;rcases ho with rfl|rfl
 all_goals
  go_enter func260,TF;go_upto_region 1 with fail
  change Code.wp _ _ _ _ (w.alloc (.cells VC.zero.arr 29));generalize w.alloc (.cells VC.zero.arr 29)=wa at*;have HAL:=qD (fU ps 3 A m c wa (HS.out.sr.step J0.out.bel) HM.out);go_wp2_with fail;refine HAL.out.mono ?_;rintro e w1 ⟨b,rfl,hb,hbe⟩;have J:=qD (J0.out.step hbe);have HQ:=qD hb;clear hb hbe;cases b
  ·go_wp2_with (go_at_call 34;refine(bt _).mono ?_;rintro e w2 ⟨k,n,t,rfl,ht,hk,hb⟩;replace J:=qD (J.out.step hb);have HT:=qD ht;have HK:=qD hk;clear hb ht hk;obtain⟨b0,b1,b2,b3,b4⟩:=aO.Mp J.out.b;have z:=J.out.b.frozen);exact OO (aD rfl _ _ _ rfl _ (bO k n t) (aO.Mn (J.out.b.putV (bO k n t)))) rfl (J.out.leaf k n HT.out HK.out)
  go_upto_region 7 with fail
  go_loopw [5,6] (fun v5 v6 wr=>∃(i:Nat) (n:Int),i<=m/\v6=.int .i64 i/\v5=.int .i64 n/\fJ w w.heap.size wr) (fun _ v6 _=>m-(intOf v6).toNat)
  ·exact⟨0,_,ON _,rfl,rfl,J.out⟩
  case round=>
   obtain⟨i,n,hi,rfl,rfl,hJ⟩:=hrel;replace J:=qD hJ;clear hJ;by_cases hlt:i<m
   ·obtain⟨p,hp⟩:∃p,ps[i]?=some p:=⟨_,OH (by have:=HS.out.sr.ln;omega)⟩;obtain⟨eb,eo,rfl,hlb,hva⟩:=(HS.out.sr.step J.out.bel).Mw hp;obtain⟨a0,a1,a2,a3,a4⟩:=hva;have i0:(0:Int)<=(i:Int):=oM
    have i1:(i:Int)<(m:Int):=oM
    clear hp;go_wp2_with fail;go_roundw
    ·exact⟨i+1,_,by omega,by go_num,rfl,J.out⟩
    ·exact iO
   ·obtain rfl:i=m:=oM
    go_wp2_with (go_at_call 30;refine(fV _ _).mono ?_;rintro e w2 ⟨k,n,t,rfl,ht,hk,hb⟩;replace J:=qD (J.out.step hb);have HT:=qD ht;have HK:=qD hk;clear hb ht hk;obtain⟨b0,b1,b2,b3,b4⟩:=aO.Mp J.out.b;have z:=J.out.b.frozen);exact OO (aD rfl _ _ _ rfl _ (bO k n t) (aO.Mn (J.out.b.putV (bO k n t)))) rfl (J.out.leaf k n HT.out HK.out)
theorem sb(op:Int)(ho:op=5\/op=7\/op=8)(ps:List PV)(A:Option Addr)(m c:Nat)(w:World)(hs:ff F w A m c ps)(h2:2<=m):
 Calls prog 260 #[.int .i64 op,.slice A m c] w (kG w):=by
 obtain⟨eb,eo,rfl,hlb,hel⟩:=hs.at oM;obtain⟨p0,-,hv0,-,-⟩:=hel 0 oM;obtain⟨p1,-,hv1,-,-⟩:=hel 1 oM;rw[show eo+0*5=eo by omega] at hv0;rw[show eo+1*5=eo+5 by omega] at hv1;have HV0:=qD hv0;have HV1:=qD hv1;have HS:=qD hs;have HM:=qD hs.few;have hm:m<=256:=hs.few;have l0:(0:Int)<(m:Int):=oM
 have l1:(1:Int)<(m:Int):=oM
 have l2:0<m:=oM
 have l3:1<m:=oM
 have J0:Hid (fJ w w.heap.size (w.alloc (.cells VC.zero.arr 29))):=fJ.start;clear hs hel hv0 hv1;rcases ho with rfl|ho
 ·go_enter func260,TF;go_upto_region 1 with fail
  change Code.wp _ _ _ _ (w.alloc (.cells VC.zero.arr 29));generalize w.alloc (.cells VC.zero.arr 29)=wa at*;have HAL:=qD (fU ps 3 _ m c wa (HS.out.sr.step J0.out.bel) HM.out);go_wp2_with fail;refine HAL.out.mono ?_;rintro e w1 ⟨b,rfl,hb,hbe⟩;have J:=qD (J0.out.step hbe);have HQ:=qD hb;clear hb hbe;cases b
  ·go_wp2_with (go_at_call 34;refine(bt _).mono ?_;rintro e w2 ⟨k,n,t,rfl,ht,hk,hb⟩;replace J:=qD (J.out.step hb);have HT:=qD ht;have HK:=qD hk;clear hb ht hk;obtain⟨b0,b1,b2,b3,b4⟩:=aO.Mp J.out.b;have z:=J.out.b.frozen);exact OO (aD rfl _ _ _ rfl _ (bO k n t) (aO.Mn (J.out.b.putV (bO k n t)))) rfl (J.out.leaf k n HT.out HK.out)
  go_upto_region 7 with fail
  go_loopw [5,6] (fun v5 v6 wr=>∃(i:Nat) (n:Int),i<=m/\v6=.int .i64 i/\v5=.int .i64 n/\fJ w w.heap.size wr) (fun _ v6 _=>m-(intOf v6).toNat)
  ·exact⟨0,_,ON _,rfl,rfl,J.out⟩
  case round=>
   obtain⟨i,n,hi,rfl,rfl,hJ⟩:=hrel;replace J:=qD hJ;clear hJ;by_cases hlt:i<m
   ·obtain⟨p,hp⟩:∃p,ps[i]?=some p:=⟨_,OH (by have:=HS.out.sr.ln;omega)⟩;obtain⟨eb',eo',hA,-,hva⟩:=(HS.out.sr.step J.out.bel).Mw hp;injection hA with hA
    injection hA with hA1 hA2
    subst hA1 hA2;obtain⟨a0,a1,a2,a3,a4⟩:=hva;have i0:(0:Int)<=(i:Int):=oM
    have i1:(i:Int)<(m:Int):=oM
    clear hp;go_wp2_with fail;go_roundw
    ·exact⟨i+1,_,by omega,by go_num,rfl,J.out⟩
    ·exact iO
   ·obtain rfl:i=m:=oM
    obtain⟨-,x1,-⟩:=(HV0.out.step J.out.bel).bw;obtain⟨-,y1,-⟩:=(HV1.out.step J.out.bel).bw;go_upto_region 14 with fail
    refine aL kR kR ?_
    repeat(go_big_quiet_step (fail))
    refine Oc ?_;rintro _ ⟨kw,rfl⟩;replace J:=qD (J.out.step kw.below);clear x1 y1;generalize kw.val=w5 at*;go_wp2_with (go_at_call 30;refine(fV _ _).mono ?_;rintro e w2 ⟨k,n,t,rfl,ht,hk,hb⟩;replace J:=qD (J.out.step hb);have HT:=qD ht;have HK:=qD hk;clear hb ht hk;obtain⟨b0,b1,b2,b3,b4⟩:=aO.Mp J.out.b;have z:=J.out.b.frozen);exact OO (aD rfl _ _ _ rfl _ (bO k n t) (aO.Mn (J.out.b.putV (bO k n t)))) rfl (J.out.leaf k n HT.out HK.out)
 ·by_cases hz:p1.1.n=0
  ·have hzb:(p1.1.n==0)=true:=by simpa using hz
   rcases ho with rfl|rfl
   all_goals
    go_enter func260,TF;go_upto_region 1 with fail
    change Code.wp _ _ _ _ (w.alloc (.cells VC.zero.arr 29));generalize w.alloc (.cells VC.zero.arr 29)=wa at*;have HAL:=qD (fU ps 3 _ m c wa (HS.out.sr.step J0.out.bel) HM.out);go_wp2_with fail;refine HAL.out.mono ?_;rintro e w1 ⟨b,rfl,hb,hbe⟩;have J:=qD (J0.out.step hbe);obtain⟨c0,c1,-⟩:=HV1.out.step J.out.bel;clear hb hbe;cases b
    all_goals
     go_wp2_with (go_at_call 34;refine(bt _).mono ?_;rintro e w2 ⟨k,n,t,rfl,ht,hk,hb⟩;replace J:=qD (J.out.step hb);have HT:=qD ht;have HK:=qD hk;clear hb ht hk;obtain⟨b0,b1,b2,b3,b4⟩:=aO.Mp J.out.b;have z:=J.out.b.frozen);exact OO (aD rfl _ _ _ rfl _ (bO k n t) (aO.Mn (J.out.b.putV (bO k n t)))) rfl (J.out.leaf k n HT.out HK.out)
  ·have hzb:(p1.1.n==0)=false:=by simpa using hz
   have HZ:=qD hz;clear hz;rcases ho with rfl|rfl
   all_goals
    go_enter func260,TF;go_upto_region 1 with fail
    change Code.wp _ _ _ _ (w.alloc (.cells VC.zero.arr 29));generalize w.alloc (.cells VC.zero.arr 29)=wa at*;have HAL:=qD (fU ps 3 _ m c wa (HS.out.sr.step J0.out.bel) HM.out);go_wp2_with fail;refine HAL.out.mono ?_;rintro e w1 ⟨b,rfl,hb,hbe⟩;have J:=qD (J0.out.step hbe);obtain⟨c0,c1,-⟩:=HV1.out.step J.out.bel;clear hb hbe;cases b
    ·go_wp2_with (go_at_call 34;refine(bt _).mono ?_;rintro e w2 ⟨k,n,t,rfl,ht,hk,hb⟩;replace J:=qD (J.out.step hb);have HT:=qD ht;have HK:=qD hk;clear hb ht hk;obtain⟨b0,b1,b2,b3,b4⟩:=aO.Mp J.out.b;have z:=J.out.b.frozen);exact OO (aD rfl _ _ _ rfl _ (bO k n t) (aO.Mn (J.out.b.putV (bO k n t)))) rfl (J.out.leaf k n HT.out HK.out)
    go_upto_region 7 with fail
    clear c0 c1
    go_loopw [5,6] (fun v5 v6 wr=>∃(i:Nat) (n:Int),i<=m/\v6=.int .i64 i/\v5=.int .i64 n/\fJ w w.heap.size wr) (fun _ v6 _=>m-(intOf v6).toNat)
    ·exact⟨0,_,ON _,rfl,rfl,J.out⟩
    case round=>
     obtain⟨i,n,hi,rfl,rfl,hJ⟩:=hrel;replace J:=qD hJ;clear hJ;by_cases hlt:i<m
     ·obtain⟨p,hp⟩:∃p,ps[i]?=some p:=⟨_,OH (by have:=HS.out.sr.ln;omega)⟩;obtain⟨eb',eo',hA,-,hva⟩:=(HS.out.sr.step J.out.bel).Mw hp;injection hA with hA
      injection hA with hA1 hA2
      subst hA1 hA2;obtain⟨a0,a1,a2,a3,a4⟩:=hva;have i0:(0:Int)<=(i:Int):=oM
      have i1:(i:Int)<(m:Int):=oM
      clear hp;go_wp2_with fail;go_roundw
      ·exact⟨i+1,_,by omega,by go_num,rfl,J.out⟩
      ·exact iO
     ·obtain rfl:i=m:=oM
      obtain⟨-,x1,-⟩:=(HV0.out.step J.out.bel).bw;obtain⟨-,y1,-⟩:=(HV1.out.step J.out.bel).bw;obtain⟨q,hq⟩:=AR p0.1.n p1.1.n HZ.out;have K1:Hid (∀kk:BW wr,Calls prog 301 #[.int .i64 p0.1.n,.int .i64 p1.1.n] kk.val fun e w''=>e=.returned (.int .i64 q)/\∃kk:BW wr,w''=kk.val):=fun kk=>Calls.bw (hq kk.val);clear hq
      first|(go_upto_region 16 with fail)|(go_upto_region 18 with fail)
      refine aL kR kR ?_
      repeat(go_big_quiet_step ((go_at_call 301;with_reducible exact K1.out _)))
      refine Oc ?_;rintro _ ⟨kw,rfl⟩;replace J:=qD (J.out.step kw.below);clear x1 y1 K1;generalize kw.val=w5 at*;go_wp2_with (go_at_call 30;refine(fV _ _).mono ?_;rintro e w2 ⟨k,n,t,rfl,ht,hk,hb⟩;replace J:=qD (J.out.step hb);have HT:=qD ht;have HK:=qD hk;clear hb ht hk;obtain⟨b0,b1,b2,b3,b4⟩:=aO.Mp J.out.b;have z:=J.out.b.frozen);exact OO (aD rfl _ _ _ rfl _ (bO k n t) (aO.Mn (J.out.b.putV (bO k n t)))) rfl (J.out.leaf k n HT.out HK.out)
theorem xm(op:Int)(ps:List PV)(A:Option Addr)(m c:Nat)(w:World)(hs:SR 5 bD w A m c ps)(hm:m<=256):
 Calls prog 261 #[.int .i64 op,.slice A m c] w (kG w):=by
 have HS:=qD hs;have J0:Hid (fJ w w.heap.size (w.alloc (.cells VC.zero.arr 29))):=fJ.start;clear hs;obtain⟨z1,hz1⟩:∃z,(op==17)=z:=⟨_,rfl⟩;obtain⟨z2,hz2⟩:∃z,(op==16)=z:=⟨_,rfl⟩;go_enter func261,ntmps261;go_upto_region 1 with fail
 change Code.wp _ _ _ _ (w.alloc (.cells VC.zero.arr 29));generalize w.alloc (.cells VC.zero.arr 29)=wa at*;go_upto_region 2 with fail
 go_loopw [5] (fun v wr=>∃i:Nat,i<=m/\v=.int .i64 i/\fJ w w.heap.size wr) (fun v _=>m-(intOf v).toNat)
 ·exact⟨0,ON _,rfl,J0.out⟩
 case round=>
  obtain⟨i,hi,rfl,hJ⟩:=hrel;have J:=qD hJ;clear hJ J0;by_cases hlt:i<m
  ·obtain⟨p,hp⟩:∃p,ps[i]?=some p:=⟨_,OH (by have:=HS.out.ln;omega)⟩;obtain⟨eb,eo,rfl,hlb,hva⟩:=(HS.out.step J.out.bel).Mw hp;obtain⟨a0,a1,a2,a3,a4⟩:=hva;have i0:(0:Int)<=(i:Int):=oM
   have i1:(i:Int)<(m:Int):=oM
   clear hp;go_wp2_with (first|(go_at_call 259;refine(kl p.1 _).mono ?_;rintro e w1 ⟨r,rfl,_,hb⟩;replace J:=qD (J.out.step hb);clear hb a0 a1 a2 a3 a4;cases hq:(r==z1))|(go_at_call 262;refine(iu _ _).mono ?_;rintro e w2 ⟨k,n,t,rfl,ht,hk,hb⟩;replace J:=qD (J.out.step hb);have HT:=qD ht;have HK:=qD hk;clear hb ht hk;obtain⟨b0,b1,b2,b3,b4⟩:=aO.Mp J.out.b;have z:=J.out.b.frozen))
   ·go_roundw
    ·exact⟨i+1,by omega,by go_num,J.out⟩
    ·exact iO
   ·exact OO (aD rfl _ _ _ rfl _ (bO k n t) (aO.Mn (J.out.b.putV (bO k n t)))) rfl (J.out.leaf k n HT.out HK.out)
  ·go_wp2_with (go_at_call 262;refine(iu _ _).mono ?_;rintro e w2 ⟨k,n,t,rfl,ht,hk,hb⟩;replace J:=qD (J.out.step hb);have HT:=qD ht;have HK:=qD hk;clear hb ht hk;obtain⟨b0,b1,b2,b3,b4⟩:=aO.Mp J.out.b;have z:=J.out.b.frozen);exact OO (aD rfl _ _ _ rfl _ (bO k n t) (aO.Mn (J.out.b.putV (bO k n t)))) rfl (J.out.leaf k n HT.out HK.out)
theorem se(op:Int)(x y:aC)(c d:VC)(w:World)(h:RW w c x)(h':RW w d y):Calls prog 272 #[.int .i64 op,c.val,d.val] w (kG w):=by
 have H:=qD h;have H':=qD h';have J0:Hid (fJ w (w.heap.size+1+1) (((w.alloc (.cells c.arr 29)).alloc (.cells d.arr 29)).alloc (.cells VC.zero.arr 29))):=⟨aG.Mm sM,by omega,(((OG _ _).alloc (qL) _).alloc sM _).alloc sO _⟩;have C0:Hid (aG (((w.alloc (.cells c.arr 29)).alloc (.cells d.arr 29)).alloc (.cells VC.zero.arr 29)) w.heap.size 29 c.arr):=((aG.Mm rfl).alloc _).alloc _;have C1:Hid (aG (((w.alloc (.cells c.arr 29)).alloc (.cells d.arr 29)).alloc (.cells VC.zero.arr 29)) (w.heap.size+1) 29 d.arr):=(aG.Mm sM).alloc _;clear h h';go_enter func272,ntmps272;go_upto_region 1 with fail
 change Code.wp _ _ _ _ (((w.alloc (.cells c.arr 29)).alloc (.cells d.arr 29)).alloc (.cells VC.zero.arr 29));generalize (((w.alloc (.cells c.arr 29)).alloc (.cells d.arr 29)).alloc (.cells VC.zero.arr 29))=wa at*;obtain⟨a0,a1,a2,a3,a4⟩:=aO.Mn C0.out;obtain⟨d0,d1,d2,d3,d4⟩:=aO.Mn C1.out;simp only[OX] at a1 a2 a3 a4 d1 d2 d3 d4;have HC:=qD (rq x y c d wa (H.out.step J0.out.bel) (H'.out.step J0.out.bel));go_upto_region 2 with(go_at_call 156;refine HC.out.mono ?_;rintro e w1 ⟨rfl,hb⟩;have J:=qD (J0.out.step hb);clear hb a0 a1 a2 a3 a4 d0 d1 d2 d3 d4 C0 C1 HC;generalize aZ x y=r)
 go_wp2_with (first|(go_at_call 262;refine(iu _ _).mono ?_;rintro e w2 ⟨k,n,t,rfl,ht,hk,hb⟩;replace J:=qD (J.out.step hb);have HT:=qD ht;have HK:=qD hk;clear hb ht hk;obtain⟨b0,b1,b2,b3,b4⟩:=aO.Mp J.out.b;have z:=J.out.b.frozen)|(go_at_call 30;refine(fV _ _).mono ?_;rintro e w2 ⟨k,n,t,rfl,ht,hk,hb⟩;replace J:=qD (J.out.step hb);have HT:=qD ht;have HK:=qD hk;clear hb ht hk;obtain⟨b0,b1,b2,b3,b4⟩:=aO.Mp J.out.b;have z:=J.out.b.frozen))
 all_goals exact OO (aD rfl _ _ _ rfl _ (bO k n t) (aO.Mn (J.out.b.putV (bO k n t)))) rfl (J.out.leaf k n HT.out HK.out)
theorem sG(x:aC)(d:VC)(A:Option Addr)(m c:Nat)(ps:List PV)(w:World)(hs:SR 5 bD w A m c ps)(hr:∀p∈ps,RW w p.1 p.2)(hx:RW w d x)(hm:m<=1048576):
 Calls prog 269 #[.slice A m c,d.val] w (am (fun _=>True) w):=by
 have HS:=qD hs;have HR:=qD hr;have HX:=qD hx;clear hs hr hx;go_enter func269,ntmps269;go_upto_region 1 with fail
 refine ml d.arr 29 ?_;intro wa B0 BE;go_upto_region 2 with fail
 go_loopw [5] (fun v wr=>∃i:Nat,i<=m/\v=.int .i64 i/\Bl wa wr) (fun v _=>m-(intOf v).toNat)
 ·exact⟨0,ON _,rfl,OG _ _⟩
 case round=>
  obtain⟨i,hi,rfl,hb⟩:=hrel;have HB:=qD hb;have D0:=qD (B0.out.step hb);have HE:=qD (BE.out.Ml hb);clear hb;by_cases hlt:i<m
  ·obtain⟨p,hp⟩:∃p,ps[i]?=some p:=⟨_,OH (by have:=HS.out.ln;omega)⟩;have HP:=qD hp;obtain⟨eb,eo,rfl,hlb,hva⟩:=(HS.out.step HE.out).Mw hp;obtain⟨a0,a1,a2,a3,a4⟩:=hva.bw;obtain⟨b0,b1,b2,b3,b4⟩:=(aO.Mn D0.out).bw;simp only[OX] at b0 b1 b2 b3 b4;obtain⟨z1,hz1⟩:∃z,(aZ p.2 x==0)=z:=⟨_,rfl⟩
   have K1:Hid (∀kk:BW wr,Calls prog 155 #[p.1.val,d.val] kk.val fun e w''=>e=.returned (.bool z1)/\∃kk:BW wr,w''=kk.val):=fun kk=>by
    rw[<-hz1];exact Calls.bw (tv _ _ _ _ _ ((HR.out p (OJ HP.out)).step (HE.out.Ml kk.below)) (HX.out.step (HE.out.Ml kk.below)))
   have i0:(0:Int)<=(i:Int):=oM
   have i1:(i:Int)<(m:Int):=oM
   clear hva hp hz1;go_upto_region 4 with fail
   refine aL kR kR ?_
   repeat(go_big_quiet_step ((go_at_call 155;with_reducible exact K1.out _)))
   refine Oc ?_;rintro _ ⟨kw,rfl⟩;have HK:=qD kw.below;generalize kw.val=w5 at*;clear a0 a1 a2 a3 a4 b0 b1 b2 b3 b4 K1;cases z1
   ·go_wp2_with fail;go_roundw
    ·exact⟨i+1,by omega,by go_num,HB.out.Ml HK.out⟩
    ·exact iO
   ·go_wp2;go_ret;exact am.of trivial (HE.out.Ml HK.out)
  ·go_wp2;go_ret;exact am.of trivial HE.out
theorem uw(ps:List PV)(A:Option Addr)(m c:Nat)(w:World)(hs:ff F w A m c ps):Calls prog 263 #[.slice A m c] w (kG w):=by
 have HS:=qD hs;have HM:=qD hs.few;have hm:m<=256:=hs.few;have J0:Hid (fJ w w.heap.size (w.alloc (.cells VC.zero.arr 29))):=fJ.start;clear hs;go_enter func263,ntmps263;go_upto_region 1 with fail
 change Code.wp _ _ _ _ (w.alloc (.cells VC.zero.arr 29));generalize w.alloc (.cells VC.zero.arr 29)=wa at*;have HAL:=qD (fU ps 4 A m c wa (HS.out.sr.step J0.out.bel) HM.out);go_wp2_with fail;refine HAL.out.mono ?_;rintro e w1 ⟨b,rfl,hb,hbe⟩;have J:=qD (J0.out.step hbe);have HQ:=qD hb;clear hb hbe;cases b
 ·go_wp2_with (go_at_call 34;refine(bt _).mono ?_;rintro e w2 ⟨k,n,t,rfl,ht,hk,hb⟩;replace J:=qD (J.out.step hb);have HT:=qD ht;have HK:=qD hk;clear hb ht hk;obtain⟨b0,b1,b2,b3,b4⟩:=aO.Mp J.out.b;have z:=J.out.b.frozen);exact OO (aD rfl _ _ _ rfl _ (bO k n t) (aO.Mn (J.out.b.putV (bO k n t)))) rfl (J.out.leaf k n HT.out HK.out)
 go_upto_region 5 with fail
 go_loopw [3,4] (fun v3 v4 wr=>∃(i:Nat) (s:ByteArray),i<=m/\v4=.int .i64 i/\v3=.string s/\s.size<=8192/\fJ w w.heap.size wr) (fun _ v4 _=>m-(intOf v4).toNat)
 ·exact⟨0,_,ON _,rfl,rfl,by decide,J.out⟩
 case round=>
  obtain⟨i,s,hi,rfl,rfl,hsz,hJ⟩:=hrel;replace J:=qD hJ;clear hJ;have HSZ:=qD hsz;have HTZ:Hid (s.size<=aF):=qD (OU hsz dE);by_cases hlt:i<m
  ·by_cases h4:s.size<=4096
   ·have h4i:(s.size:Int)<=4096:=oM
    obtain⟨p,hp⟩:∃p,ps[i]?=some p:=⟨_,OH (by have:=HS.out.sr.ln;omega)⟩;obtain⟨eb,eo,rfl,hlb,hva⟩:=(HS.out.sr.step J.out.bel).Mw hp
    have HTP:Hid (p.1.t.size<=4096):=qD (by
     have hm:=OJ hp
     rw[(HS.out.rv p hm).open.t]
     exact(HS.out.ok p hm).len.1)
    have htp:p.1.t.size<=4096:=HTP.out;have hpl:s.size+p.1.t.size<=8192:=oM
    obtain⟨a0,a1,a2,a3,a4⟩:=hva;have i0:(0:Int)<=(i:Int):=oM
    have i1:(i:Int)<(m:Int):=oM
    clear hp hsz;go_wp2_with fail;go_roundw
    ·exact⟨i+1,_,by omega,by go_num,rfl,by simp;omega,J.out⟩
    ·exact iO
   ·have h4i:¬(s.size:Int)<=4096:=oM
    clear hsz;go_wp2_with (go_at_call 264;refine(fQ _ _ HTZ.out).mono ?_;rintro e w2 ⟨k,n,t,rfl,ht,hk,hb⟩;replace J:=qD (J.out.step hb);have HT:=qD ht;have HK:=qD hk;clear hb ht hk;obtain⟨b0,b1,b2,b3,b4⟩:=aO.Mp J.out.b;have z:=J.out.b.frozen);exact OO (aD rfl _ _ _ rfl _ (bO k n t) (aO.Mn (J.out.b.putV (bO k n t)))) rfl (J.out.leaf k n HT.out HK.out)
  ·clear hsz;go_wp2_with (go_at_call 264;refine(fQ _ _ HTZ.out).mono ?_;rintro e w2 ⟨k,n,t,rfl,ht,hk,hb⟩;replace J:=qD (J.out.step hb);have HT:=qD ht;have HK:=qD hk;clear hb ht hk;obtain⟨b0,b1,b2,b3,b4⟩:=aO.Mp J.out.b;have z:=J.out.b.frozen);exact OO (aD rfl _ _ _ rfl _ (bO k n t) (aO.Mn (J.out.b.putV (bO k n t)))) rfl (J.out.leaf k n HT.out HK.out)
theorem pq(s:ByteArray)(w:World)(hs:s.size<=1000000000):Calls prog 265 #[.string s,.bool false] w (DY s.size w):=by
 go_enter func265,ntmps265;go_upto_region 3 with fail
 go_loopw [5,6,7] (fun v5 v6 _ wr=>∃(i:Nat) (t:ByteArray),i<=s.size/\v6=.int .i64 i/\v5=.string t/\t.size=i/\Bl w wr) (fun _ v6 _ _=>s.size-(intOf v6).toNat)
 ·exact⟨0,empty,ON _,rfl,rfl,rfl,OG _ _⟩
 case round=>
  obtain⟨i,t,hi,rfl,rfl,ht,hb⟩:=hrel;have HB:=qD hb;have HTS:=qD ht;clear hb ht;by_cases hlt:i<s.size
  ·obtain⟨x,hx⟩:=fI hlt;have i0:(0:Int)<=(i:Int):=oM
   have i1:(i:Int)<(s.size:Int):=oM
   have key:∀y:Int,∃z,z=strOfNums [y]/\z.size=1/\(convert 133 9 (.slice (some ⟨wr.heap.size,0,none⟩) 1 1)).run prog (wr.alloc (.cells #[.int .u8 y] 5))=.ok (.string z) (wr.alloc (.cells #[.int .u8 y] 5)):=fun y=>
    ⟨_,rfl,by rw[Qg];rfl,JQ y wr QX⟩
   have KEY:=qD key;clear key;rcases(show(65<=x/\x<=90)\/x<65\/(65<=x/\90<x) by omega) with⟨h1,h2⟩|h|⟨h1,h3⟩
   ·obtain⟨z,-,hz,hcv⟩:=KEY.out (x+32);have hcat:∀w2:World,(Op.stringOp .add t z).run prog w2=.ok (.string (t++z)) w2:=fun w2=>Pz _ _ _ (by have:=HTS.out;omega);have HZ:=qD hz;clear hz;go_wp2_with fail;go_roundw
    ·exact⟨i+1,t++z,by omega,by go_num,rfl,by rw[Pn,HZ.out,HTS.out],HB.out.alloc HB.out.size _⟩
    ·exact iO
   ·have h1:¬65<=x:=oM
    obtain⟨z,-,hz,hcv⟩:=KEY.out x;have hcat:∀w2:World,(Op.stringOp .add t z).run prog w2=.ok (.string (t++z)) w2:=fun w2=>Pz _ _ _ (by have:=HTS.out;omega);have HZ:=qD hz;clear hz;go_wp2_with fail;go_roundw
    ·exact⟨i+1,t++z,by omega,by go_num,rfl,by rw[Pn,HZ.out,HTS.out],HB.out.alloc HB.out.size _⟩
    ·exact iO
   ·have h2:¬x<=90:=oM
    obtain⟨z,-,hz,hcv⟩:=KEY.out x;have hcat:∀w2:World,(Op.stringOp .add t z).run prog w2=.ok (.string (t++z)) w2:=fun w2=>Pz _ _ _ (by have:=HTS.out;omega);have HZ:=qD hz;clear hz h3;go_wp2_with fail;go_roundw
    ·exact⟨i+1,t++z,by omega,by go_num,rfl,by rw[Pn,HZ.out,HTS.out],HB.out.alloc HB.out.size _⟩
    ·exact iO
  ·obtain rfl:i=s.size:=oM
   go_wp2;go_ret;exact⟨t,rfl,Nat.le_of_eq HTS.out,HB.out⟩
theorem sH(s:ByteArray)(w:World)(hs:s.size<=1000000000):Calls prog 265 #[.string s,.bool true] w (DY s.size w):=by
 go_enter func265,ntmps265;go_upto_region 3 with fail
 go_loopw [5,6,7] (fun v5 v6 _ wr=>∃(i:Nat) (t:ByteArray),i<=s.size/\v6=.int .i64 i/\v5=.string t/\t.size=i/\Bl w wr) (fun _ v6 _ _=>s.size-(intOf v6).toNat)
 ·exact⟨0,empty,ON _,rfl,rfl,rfl,OG _ _⟩
 case round=>
  obtain⟨i,t,hi,rfl,rfl,ht,hb⟩:=hrel;have HB:=qD hb;have HTS:=qD ht;clear hb ht;by_cases hlt:i<s.size
  ·obtain⟨x,hx⟩:=fI hlt;have i0:(0:Int)<=(i:Int):=oM
   have i1:(i:Int)<(s.size:Int):=oM
   have key:∀y:Int,∃z,z=strOfNums [y]/\z.size=1/\(convert 133 9 (.slice (some ⟨wr.heap.size,0,none⟩) 1 1)).run prog (wr.alloc (.cells #[.int .u8 y] 5))=.ok (.string z) (wr.alloc (.cells #[.int .u8 y] 5)):=fun y=>
    ⟨_,rfl,by rw[Qg];rfl,JQ y wr QX⟩
   have KEY:=qD key;clear key;rcases(show(97<=x/\x<=122)\/x<97\/(97<=x/\122<x) by omega) with⟨h1,h2⟩|h|⟨h1,h3⟩
   ·obtain⟨z,-,hz,hcv⟩:=KEY.out (x-32);have hcat:∀w2:World,(Op.stringOp .add t z).run prog w2=.ok (.string (t++z)) w2:=fun w2=>Pz _ _ _ (by have:=HTS.out;omega);have HZ:=qD hz;clear hz;go_wp2_with fail;go_roundw
    ·exact⟨i+1,t++z,by omega,by go_num,rfl,by rw[Pn,HZ.out,HTS.out],HB.out.alloc HB.out.size _⟩
    ·exact iO
   ·have h1:¬97<=x:=oM
    obtain⟨z,-,hz,hcv⟩:=KEY.out x;have hcat:∀w2:World,(Op.stringOp .add t z).run prog w2=.ok (.string (t++z)) w2:=fun w2=>Pz _ _ _ (by have:=HTS.out;omega);have HZ:=qD hz;clear hz;go_wp2_with fail;go_roundw
    ·exact⟨i+1,t++z,by omega,by go_num,rfl,by rw[Pn,HZ.out,HTS.out],HB.out.alloc HB.out.size _⟩
    ·exact iO
   ·have h2:¬x<=122:=oM
    obtain⟨z,-,hz,hcv⟩:=KEY.out x;have hcat:∀w2:World,(Op.stringOp .add t z).run prog w2=.ok (.string (t++z)) w2:=fun w2=>Pz _ _ _ (by have:=HTS.out;omega);have HZ:=qD hz;clear hz h3;go_wp2_with fail;go_roundw
    ·exact⟨i+1,t++z,by omega,by go_num,rfl,by rw[Pn,HZ.out,HTS.out],HB.out.alloc HB.out.size _⟩
    ·exact iO
  ·obtain rfl:i=s.size:=oM
   go_wp2;go_ret;exact⟨t,rfl,Nat.le_of_eq HTS.out,HB.out⟩
theorem sf(s:ByteArray)(u:Bool)(w:World)(hs:s.size<=1000000000):Calls prog 265 #[.string s,.bool u] w (DY s.size w):=by
 cases u
 ·exact pq s w hs
 ·exact sH s w hs
end
structure Lv(w:World)(c d e:VC)(wr:World):Prop where
 b0:aG wr w.heap.size 29 c.arr
 b1:aG wr (w.heap.size+1) 29 d.arr
 b2:aG wr (w.heap.size+1+1) 29 e.arr
 r:fJ w (w.heap.size+1+1+1) wr
section
variable {b i c size j:Nat} {w:World} {e t:TypeId} {x d:Int} {v:Value} {s:ByteArray} {F:Nat -> Prop}
theorem Lv.start{c d e:VC}:Lv w c d e ((((w.alloc (.cells c.arr 29)).alloc (.cells d.arr 29)).alloc (.cells e.arr 29)).alloc (.cells VC.zero.arr 29)):=
 ⟨(((aG.Mm rfl).alloc _).alloc _).alloc _,((aG.Mm sM).alloc _).alloc _,(aG.Mm sM).alloc _,aG.Mm sM,by omega,((((OG _ _).alloc (qL) _).alloc sM _).alloc sO _).alloc sO _⟩
theorem xo(c d e:VC)(w:World)(ht:c.t.size<=4096):Calls prog 266 #[c.val,d.val,e.val] w (kG w):=by
 have HT0:=qD ht;have I0:Hid (Lv w c d e ((((w.alloc (.cells c.arr 29)).alloc (.cells d.arr 29)).alloc (.cells e.arr 29)).alloc (.cells VC.zero.arr 29))):=Lv.start;clear ht;go_enter func266,ntmps266;go_upto_region 1 with fail
 change Code.wp _ _ _ _ ((((w.alloc (.cells c.arr 29)).alloc (.cells d.arr 29)).alloc (.cells e.arr 29)).alloc (.cells VC.zero.arr 29));generalize ((((w.alloc (.cells c.arr 29)).alloc (.cells d.arr 29)).alloc (.cells e.arr 29)).alloc (.cells VC.zero.arr 29))=wa at*;obtain⟨a0,a1,a2,a3,a4⟩:=aO.Mn I0.out.b0;obtain⟨d0,d1,-⟩:=aO.Mn I0.out.b1;obtain⟨e0,e1,-⟩:=aO.Mn I0.out.b2;simp only[OX] at a1 a2 a3 a4 d1 e1;have J:=qD I0.out.r;obtain⟨ct,hct⟩:∃t,t=c.t:=⟨_,rfl⟩;rw[<-hct] at HT0 a2;clear hct I0;by_cases ok:c.k=4/\d.k=3/\e.k=3/\0<=d.n/\0<=e.n
 ·obtain⟨k1,k2,k3,g1,g2⟩:=ok;obtain⟨f,hf⟩:∃f:Nat,d.n=(f:Int):=⟨d.n.toNat,by omega⟩;obtain⟨q,hq⟩:∃q:Nat,e.n=(q:Int):=⟨e.n.toNat,by omega⟩;rw[k1] at a0;rw[k2] at d0;rw[k3] at e0;rw[hf] at d1;rw[hq] at e1;clear k1 k2 k3 hf hq g1 g2;have n1:¬(f:Int)<0:=oM
  have n2:¬(q:Int)<0:=oM
  have hz:ct.size<=4096:=HT0.out;have HTZ:Hid (∀a b:Nat,(ct.extract a b).size<=aF):=qD fun a b=>by rw[Qp];unfold aF;omega
  by_cases h1:f<=ct.size
  ·have h1i:¬(f:Int)>(ct.size:Int):=oM
   have h1j:¬(ct.size:Int)<(f:Int):=oM
   have f0:(0:Int)<=(f:Int):=oM
   have f1:(f:Int)<=(ct.size:Int):=oM
   by_cases h2:q<=ct.size-f
   ·have h2i:¬(q:Int)>(ct.size:Int)-(f:Int):=oM
    have h2j:¬(ct.size:Int)-(f:Int)<(q:Int):=oM
    have s1:(f:Int)<=(f:Int)+(q:Int):=oM
    have s2:(f:Int)+(q:Int)<=(ct.size:Int):=oM
    go_wp2_with (go_at_call 264;refine(fQ _ _ (HTZ.out _ _)).mono ?_;rintro e w2 ⟨k,n,t,rfl,ht,hk,hb⟩;replace J:=qD (J.out.step hb);have HT:=qD ht;have HK:=qD hk;clear hb ht hk;obtain⟨b0,b1,b2,b3,b4⟩:=aO.Mp J.out.b;have z:=J.out.b.frozen);exact OO (aD rfl _ _ _ rfl _ (bO k n t) (aO.Mn (J.out.b.putV (bO k n t)))) rfl (J.out.leaf k n HT.out HK.out)
   ·have h2i:(q:Int)>(ct.size:Int)-(f:Int):=oM
    have h2j:(ct.size:Int)-(f:Int)<(q:Int):=oM
    have s0:(f:Int)+((ct.size:Int)-(f:Int))=(ct.size:Int):=oM
    go_wp2_with (go_at_call 264;refine(fQ _ _ (HTZ.out _ _)).mono ?_;rintro e w2 ⟨k,n,t,rfl,ht,hk,hb⟩;replace J:=qD (J.out.step hb);have HT:=qD ht;have HK:=qD hk;clear hb ht hk;obtain⟨b0,b1,b2,b3,b4⟩:=aO.Mp J.out.b;have z:=J.out.b.frozen);exact OO (aD rfl _ _ _ rfl _ (bO k n t) (aO.Mn (J.out.b.putV (bO k n t)))) rfl (J.out.leaf k n HT.out HK.out)
  ·have h1i:(f:Int)>(ct.size:Int):=oM
   have h1j:(ct.size:Int)<(f:Int):=oM
   have s0:(ct.size:Int)-(ct.size:Int)=0:=oM
   by_cases h2:q=0
   ·have h0:(q:Int)=0:=oM
    rw[h0] at e1;clear h0 h2 n2;go_wp2_with (go_at_call 264;refine(fQ empty _ dE).mono ?_;rintro e w2 ⟨k,n,t,rfl,ht,hk,hb⟩;replace J:=qD (J.out.step hb);have HT:=qD ht;have HK:=qD hk;clear hb ht hk;obtain⟨b0,b1,b2,b3,b4⟩:=aO.Mp J.out.b;have z:=J.out.b.frozen);exact OO (aD rfl _ _ _ rfl _ (bO k n t) (aO.Mn (J.out.b.putV (bO k n t)))) rfl (J.out.leaf k n HT.out HK.out)
   ·have h2j:(0:Int)<(q:Int):=oM
    go_wp2_with (go_at_call 264;refine(fQ empty _ dE).mono ?_;rintro e w2 ⟨k,n,t,rfl,ht,hk,hb⟩;replace J:=qD (J.out.step hb);have HT:=qD ht;have HK:=qD hk;clear hb ht hk;obtain⟨b0,b1,b2,b3,b4⟩:=aO.Mp J.out.b;have z:=J.out.b.frozen);exact OO (aD rfl _ _ _ rfl _ (bO k n t) (aO.Mn (J.out.b.putV (bO k n t)))) rfl (J.out.leaf k n HT.out HK.out)
 ·rcases(show(c.k != 4)=true\/((c.k != 4)=false/\(d.k != 3)=true)\/((c.k != 4)=false/\(d.k != 3)=false/\(e.k != 3)=true)\/((c.k != 4)=false/\(d.k != 3)=false/\(e.k != 3)=false/\d.n<0)\/((c.k != 4)=false/\(d.k != 3)=false/\(e.k != 3)=false/\¬d.n<0/\e.n<0) by
   simp only[bne_iff_ne,bne_eq_false_iff_eq,Si];omega) with h1|⟨h1,h2⟩|⟨h1,h2,h3⟩|⟨h1,h2,h3,h4⟩|⟨h1,h2,h3,h4,h5⟩
  all_goals
   clear ok;go_wp2_with (go_at_call 34;refine(bt _).mono ?_;rintro e w2 ⟨k,n,t,rfl,ht,hk,hb⟩;replace J:=qD (J.out.step hb);have HT:=qD ht;have HK:=qD hk;clear hb ht hk;obtain⟨b0,b1,b2,b3,b4⟩:=aO.Mp J.out.b;have z:=J.out.b.frozen);exact OO (aD rfl _ _ _ rfl _ (bO k n t) (aO.Mn (J.out.b.putV (bO k n t)))) rfl (J.out.leaf k n HT.out HK.out)
theorem sg(x:aC)(c d:VC)(w:World)(hF:∀b,F b->b<w.heap.size)(h:RV F w c x)(hok:gq x):Calls prog 268 #[c.val,d.val] w (eU F w):=by
 have H:=qD h;have HOK:=qD hok;have HFH:=qD hF;have hln:c.ln<=1024:=by have:=h.open.ln;have:=hok.len.2.1;omega
 have J0:Hid (fJ w (w.heap.size+1+1) (((w.alloc (.cells c.arr 29)).alloc (.cells d.arr 29)).alloc (.cells VC.zero.arr 29))):=⟨aG.Mm sM,by omega,(((OG _ _).alloc (qL) _).alloc sM _).alloc sO _⟩;have C0:Hid (aG (((w.alloc (.cells c.arr 29)).alloc (.cells d.arr 29)).alloc (.cells VC.zero.arr 29)) w.heap.size 29 c.arr):=((aG.Mm rfl).alloc _).alloc _;have C1:Hid (aG (((w.alloc (.cells c.arr 29)).alloc (.cells d.arr 29)).alloc (.cells VC.zero.arr 29)) (w.heap.size+1) 29 d.arr):=(aG.Mm sM).alloc _;clear h hok hF;go_enter func268,ntmps268;go_upto_region 1 with fail
 change Code.wp _ _ _ _ (((w.alloc (.cells c.arr 29)).alloc (.cells d.arr 29)).alloc (.cells VC.zero.arr 29));generalize (((w.alloc (.cells c.arr 29)).alloc (.cells d.arr 29)).alloc (.cells VC.zero.arr 29))=wa at*;obtain⟨a0,a1,a2,a3,a4⟩:=aO.Mn C0.out;obtain⟨d0,d1,d2,d3,d4⟩:=aO.Mn C1.out;simp only[OX] at a1 a2 a3 a4 d1 d2 d3 d4;have J:=J0;rcases(show(c.k != 6)=true\/((c.k != 6)=false/\(d.k != 3)=true)\/((c.k != 6)=false/\(d.k != 3)=false) by cases(c.k != 6)<;>cases(d.k != 3)<;>simp) with h1|⟨h1,h2⟩|⟨h1,h2⟩
 ·go_wp2_with (go_at_call 34;refine(bt _).mono ?_;rintro e w2 ⟨k,n,t,rfl,ht,hk,hb⟩;replace J:=qD (J.out.step hb);have HT:=qD ht;have HK:=qD hk;clear hb ht hk;obtain⟨b0,b1,b2,b3,b4⟩:=aO.Mp J.out.b;have z:=J.out.b.frozen);exact OO (aD rfl _ _ _ rfl _ (bO k n t) (aO.Mn (J.out.b.putV (bO k n t)))) rfl (J.out.leaf k n HT.out HK.out).a
 ·go_wp2_with (go_at_call 34;refine(bt _).mono ?_;rintro e w2 ⟨k,n,t,rfl,ht,hk,hb⟩;replace J:=qD (J.out.step hb);have HT:=qD ht;have HK:=qD hk;clear hb ht hk;obtain⟨b0,b1,b2,b3,b4⟩:=aO.Mp J.out.b;have z:=J.out.b.frozen);exact OO (aD rfl _ _ _ rfl _ (bO k n t) (aO.Mn (J.out.b.putV (bO k n t)))) rfl (J.out.leaf k n HT.out HK.out).a
 obtain⟨ps,hps,hsl⟩:=RV.sl H.out;have HSL:=qD hsl;have HPS:=qD hps;have HLN:Hid (ps.length=c.ln):=qD hsl.sr.ln.symm;obtain⟨b0,b1,b2,b3,b4⟩:=aO.Mp J.out.b;have z:=J.out.b.frozen;clear hps hsl
 have HEL:Hid (∀j,j<c.ln->∃(p:PV) (eb eo:Nat),c.LA=some ⟨eb,eo,none⟩/\aO wa eb (eo+j*5) p.1/\RV F wa p.1 p.2/\gq p.2):=qD fun j hj=>by
  obtain⟨p,hp⟩:∃p,ps[j]?=some p:=⟨_,OH (by have:=HLN.out;omega)⟩;obtain⟨eb,eo,e,_,hva⟩:=(HSL.out.sr.step J0.out.bel).Mw hp;exact⟨p,eb,eo,e,hva,(HSL.out.rv p (OJ hp)).step J0.out.bel,HOK.out.el (by rw[<-HPS.out];exact PD (OJ hp))⟩
 clear HSL HPS HLN;rcases Int.lt_or_le d.n 0 with hn|hn
 ·obtain⟨M,hM⟩:∃M,wrap64 (d.n+(c.ln:Int))=M:=⟨_,rfl⟩;rcases(show M<0\/(¬M<0/\M≥(c.ln:Int))\/(¬M<0/\¬M≥(c.ln:Int)) by omega) with g1|⟨g1,g2⟩|⟨g1,g2⟩
  ·go_wp2_with fail;have q:=aO.Mn (J.out.b.putV VC.zero);refine OO (aD rfl _ _ _ rfl _ VC.zero q) rfl ?_;exact J.out.val RV.zero HFH.out fun _=>rfl
  ·go_wp2_with fail;have q:=aO.Mn (J.out.b.putV VC.zero);refine OO (aD rfl _ _ _ rfl _ VC.zero q) rfl ?_;exact J.out.val RV.zero HFH.out fun _=>rfl
  ·obtain⟨j,rfl⟩:∃j:Nat,M=(j:Int):=⟨M.toNat,by omega⟩;obtain⟨p,eb,eo,hA,hva,hrv,hoo⟩:=HEL.out j oM;rw[hA] at a3;have HRV:=qD hrv;have HOO:=qD hoo;obtain⟨e0,e1,e2,e3,e4⟩:=hva;have i0:(0:Int)<=(j:Int):=oM
   have i1:(j:Int)<(c.ln:Int):=oM
   clear hA hrv hoo;go_wp2_with fail;exact OO (aD rfl _ _ _ rfl _ p.1 (aO.Mn (J.out.b.putV p.1))) rfl (J.out.val (HRV.out.mono fun _=>.inl) HFH.out HOO.out.k0)
 ·have hn':¬d.n<0:=oM
  obtain⟨M,hM⟩:∃M,d.n=M:=⟨_,rfl⟩;rw[hM] at d1 hn hn';clear hM;have hM0:0<=M:=hn;clear hn hn';rcases(show(¬M<0/\M≥(c.ln:Int))\/(¬M<0/\¬M≥(c.ln:Int)) by omega) with⟨g1,g2⟩|⟨g1,g2⟩
  ·go_wp2_with fail;have q:=aO.Mn (J.out.b.putV VC.zero);refine OO (aD rfl _ _ _ rfl _ VC.zero q) rfl ?_;exact J.out.val RV.zero HFH.out fun _=>rfl
  ·obtain⟨j,rfl⟩:∃j:Nat,M=(j:Int):=⟨M.toNat,by omega⟩;obtain⟨p,eb,eo,hA,hva,hrv,hoo⟩:=HEL.out j oM;rw[hA] at a3;have HRV:=qD hrv;have HOO:=qD hoo;obtain⟨e0,e1,e2,e3,e4⟩:=hva;have i0:(0:Int)<=(j:Int):=oM
   have i1:(j:Int)<(c.ln:Int):=oM
   clear hA hrv hoo;go_wp2_with fail;exact OO (aD rfl _ _ _ rfl _ p.1 (aO.Mn (J.out.b.putV p.1))) rfl (J.out.val (HRV.out.mono fun _=>.inl) HFH.out HOO.out.k0)
def Lg(x:aC)(name:ByteArray)(v:aC):aC:=.mk x.k x.n x.t x.l (x.d++[.mk name v])
def Dn(d:List bf)(j:Nat)(v:aC):List bf:=d.mapIdx fun i f=>if i=j then .mk f.s v else f
def putV(x:aC)(j:Nat)(v:aC):aC:=.mk x.k x.n x.t x.l (Dn x.d j v)
def ux(x:aC)(name:ByteArray)(v:aC):aC:=if x.k=5 then(if fH x name<0 then Lg x name v else putV x (fH x name).toNat v) else x
theorem GY(d:List bf)(j:Nat)(v:aC)(i:Nat):(Dn d j v)[i]?=(d[i]?).map fun f=>if i=j then .mk f.s v else f:=by
 simp[Dn,List.getElem?_mapIdx]
theorem xp(d:List bf)(j:Nat)(v:aC):(Dn d j v).length=d.length:=by simp[Dn]
def GZ(F:Nat->Prop)(y:aC)(w:World)(e:Ending)(w':World):Prop:=∃c:VC,e=.returned c.val/\RV (fun b=>F b\/w.heap.size<=b) w' c y/\Bl w w'
def oy(fs:List PF)(j:Int)(e:VC)(v:aC):List PF:=fs.mapIdx fun i p=>if(i:Int)=j then(e,.mk p.2.s v) else p
theorem oS(fs:List PF)(j:Int)(e:VC)(v:aC)(i:Nat):(oy fs j e v)[i]?=(fs[i]?).map fun p=>if(i:Int)=j then(e,.mk p.2.s v) else p:=by
 simp[oy,List.getElem?_mapIdx]
theorem mH(fs:List PF)(j:Int)(e:VC)(v:aC):(oy fs j e v).length=fs.length:=by simp[oy]
theorem Ga(fs:List PF)(j:Nat)(e:VC)(v:aC):(oy fs j e v).map Prod.snd=Dn (fs.map Prod.snd) j v:=by
 apply List.ext_getElem?;intro i;rw[OT,oS,GY,OT];cases fs[i]? with
 | none=>rfl
 | some p=>
  simp only[Ps];by_cases h:i=j
  ·subst h;simp
  ·rw[OQ oM,OQ h]
theorem Do(fs:List PF)(e:VC)(v:aC):oy fs (-1) e v=fs:=by
 apply List.ext_getElem?;intro i;rw[oS];cases fs[i]? with
 | none=>rfl
 | some p=>simp only[Ps];rw[OQ oM]
end
structure sh(w:World)(c e:VC)(qs:List PF)(i:Nat)(v:Value)(wr:World):Prop where
 b0:aG wr w.heap.size 29 c.arr
 b1:aG wr (w.heap.size+1) 29 e.arr
 b2:aG wr (w.heap.size+1+1) 29 VC.zero.arr
 own:wr.ownsRow (w.heap.size+3) 77 6 v i (aN cw (qs.take i))
 bel:Bl w wr
section
variable {i c size:Nat} {w w' wr:World} {e:TypeId} {v:Value}
theorem sh.step{c e:VC}{qs:List PF}(h:sh w c e qs i v wr)(hb:Bl wr w'):sh w c e qs i v w':=
 ⟨h.b0.step hb,h.b1.step hb,h.b2.step hb,af h.own hb,h.bel.Ml hb⟩
end
theorem sh.lo{w:World}{c e:VC}{qs:List PF}{i:Nat}{v:Value}{wr:World}(h:sh w c e qs i v wr):w.heap.size+3<=wr.heap.size:=by have:=h.b2.lt;omega
section
variable {k n g m i c ln dn q cap lc off size dc:Nat} {w w' wr:World} {e t:TypeId} {x y ck cn d:Int} {l:List ByteArray} {v v':Value} {s ct:ByteArray} {A' LA DA:Option Addr} {F:Nat -> Prop}
theorem sh.next{c e:VC}{qs:List PF}{q:PF}(h:sh w c e qs i v wr)(hq:qs[i]?=some q)(hg:wr.grownBy w' v.ownBlock)(hm:i+1=m)(ho:w'.ownsRow (w.heap.size+3) 77 6 v' m (aN cw (qs.take i)++cw q)):sh w c e qs (i+1) v' w':=by
  subst hm
  exact⟨h.b0.grown hg (fun e=>gr h.own oM e.symm),h.b1.grown hg (fun e=>gr h.own oM e.symm),h.b2.grown hg (fun e=>gr h.own oM e.symm),
   by rw[take_snoc' hq,cS];exact ho,h.bel.grown hg h.bel.size (fun k hk=>by have:=ak h.own k hk;omega)⟩
theorem sh.add{c e:VC}{qs:List PF}{q:PF}(h:sh w c e qs i v wr)(hl:qs.length=i)(hg:wr.grownBy w' v.ownBlock)(hm:i+1=m)(ho:w'.ownsRow (w.heap.size+3) 77 6 v' m (aN cw (qs.take i)++cw q)):sh w c e (qs++[q]) (i+1) v' w':=by
  have h':sh w c e (qs++[q]) i v wr:=⟨h.b0,h.b1,h.b2,by rw[RZ oM];exact h.own,h.bel⟩;exact h'.next (q:=q) (by rw[Oa oM,hl];simp) hg hm (by rw[RZ oM];exact ho)
theorem sh.Mu{c e u:VC}{qs:List PF}{ga:Nat}(h:sh w c e qs i v wr)(hg:w.heap.size+3<=ga)(ho:v.ownBlock≠some ga):sh w c e qs i v (bM wr ga off u):=
 ⟨h.b0.My oM _ _,h.b1.My oM _ _,h.b2.My oM _ _,jt h.own fun g hh=>bC (by rintro rfl;exact ho hh),aW h.bel oM _ _⟩
theorem aG.field{p:PF}(h:aG w g 77 (cw p).toArray):w.cell? ⟨g,0,none⟩=some (.string p.2.s)/\aO w g 1 p.1:=by
 refine⟨by rw[h.cell];rfl,by rw[h.cell];rfl,by rw[h.cell];rfl,by rw[h.cell];rfl,by rw[h.cell];rfl,by rw[h.cell];rfl⟩
theorem aG.Nh{p:PF}(h:aG w g 77 (cw p).toArray)(e:VC)(v:aC):aG (bM w g 1 e) g 77 (cw (e,.mk p.2.s v)).toArray:=
 ((((h.Mo 1 _).Mo 2 _).Mo 3 _).Mo 4 _).Mo 5 _
theorem sh.done{e:VC}{qs:List PF}{x:aC}{y:aC}(h:sh w ⟨ck,cn,ct,LA,ln,lc,DA,dn,dc⟩ e qs m (.slice A' m cap) wr)(hx:RV F w ⟨ck,cn,ct,LA,ln,lc,DA,dn,dc⟩ x)(hl:qs.length=m)(hz:m*96<=aF)(hs:∀q∈qs,q.2.s.size<=aF/\RV F w q.1 q.2.v)(hy:y=.mk x.k x.n x.t x.l (qs.map Prod.snd)):
  GZ F y w (.returned (VC.val ⟨ck,cn,ct,LA,ln,lc,A',m,cap⟩)) (bM (wr.setCell ⟨w.heap.size,4,none⟩ (.slice A' m cap)) (w.heap.size+1+1) 0 ⟨ck,cn,ct,LA,ln,lc,A',m,cap⟩):=by
  subst hy;have hlo:=h.lo
  have hB:Bl w (bM (wr.setCell ⟨w.heap.size,4,none⟩ (.slice A' m cap)) (w.heap.size+1+1) 0 ⟨ck,cn,ct,LA,ln,lc,A',m,cap⟩):=
   aW (h.bel.setCell (qL) _) oM _ _
  have ho:=h.own;rw[OS oM] at ho
  have ho':=jt (w':=bM (wr.setCell ⟨w.heap.size,4,none⟩ (.slice A' m cap)) (w.heap.size+1+1) 0 ⟨ck,cn,ct,LA,ln,lc,A',m,cap⟩) ho fun g hg=>by
   have:=ak ho g hg;rw[bC oM,PQ _ _ _ _ (by show g≠w.heap.size;omega)]
  obtain⟨A,cc,heq,hsd⟩:=SD.Mq (F:=fun b=>F b\/w.heap.size<=b) ho' hl hz (fun _ hb=>.inr oM) (fun p hp=>(hs p hp).1) (fun p hp=>((hs p hp).2.step hB).mono fun _=>.inl);cases heq;have hxo:=hx.open;obtain⟨ps,hps,hsl⟩:=hx.sl;have:=RV.NC (k:=ck) (m:=cn) (t:=ct) (by have:=hxo.t;simp only at this;rw[this];exact hxo.tsz) ((hsl.step hB).mono fun _=>.inl) hsd;refine⟨_,rfl,?_,hB⟩;have e1:=hxo.k;have e2:=hxo.n;have e3:=hxo.t;simp only at e1 e2 e3;rw[hps,e1,e2,e3] at this;rw[<-e1,<-e2,<-e3] at this ⊢;exact this
theorem Ij(x v:aC)(c e:VC)(name:ByteArray)(w:World)(h:RV F w c x)(he:RV F w e v)(hn:name.size<=aF)(hbig:(x.d.length+1)*96<=aF):
 Calls prog 302 #[c.val,.string name,e.val] w (GZ F (ux x name v) w):=by
 obtain⟨j0,hj0,hy0,hy1,hy2⟩:=Pb kW;obtain⟨ck,cn,ct,LA,ln,lc,DA,dn,dc⟩:=c;have hk:ck=x.k:=h.open.k;have H:=qD h;have HE:=qD he;have HNm:=qD hn;have HBig:=qD hbig;have hdn:dn=x.d.length:=h.open.dn;have hz:(dn+1)*96<=140737488355328:=by rw[hdn];exact hbig
 have B0:Hid (sh w ⟨ck,cn,ct,LA,ln,lc,DA,dn,dc⟩ e [] 0 (.slice none 0 0) (((w.alloc (.cells #[.int .i64 ck,.int .i64 cn,.string ct,.slice LA ln lc,.slice DA dn dc] 29)).alloc (.cells e.arr 29)).alloc (.cells VC.zero.arr 29))):=
  qD ⟨((aG.Mm rfl).alloc _).alloc _,(aG.Mm sM).alloc _,aG.Mm sM,bP _ _ _ _,(((OG _ _).alloc (qL) _).alloc sM _).alloc sO _⟩
 by_cases h5:ck=5
 ·subst h5;obtain⟨fs,hfs,hsd⟩:=h.sd;simp only at hsd;have HS:=qD hsd;have HFS:=qD hfs;have HDN:=qD hdn;have HK:=qD hk;have HFL:=qD hsd.sr.ln;clear h he hn hbig hdn hsd hfs hk;go_enter func302,ntmps302;go_wp2_with fail;refine(Bp x ⟨5,cn,ct,LA,ln,lc,DA,dn,dc⟩ name _ ((H.out.mono fun _ _=>trivial).step B0.out.bel)).mono ?_;rintro e1 w1 ⟨rfl,hb1⟩;obtain⟨kI,hkI⟩:∃k,k=fH x name:=⟨_,rfl⟩;have HKI:=qD hkI
  have hkr:kI=-1\/∃j:Nat,kI=j/\j<x.d.length:=by
   rcases mJ x name with hf|⟨j,hf,f,hj⟩
   ·exact .inl oM
   ·exact .inr ⟨j,by omega,(OI.1 hj).1⟩
  have HKR:=qD hkr;rw[<-hkI]
  have B1:Hid (sh w ⟨5,cn,ct,LA,ln,lc,DA,dn,dc⟩ e (oy fs kI e v) 0 (.slice none 0 0) w1):=by
   have:=B0.out.step hb1;exact qD ⟨this.b0,this.b1,this.b2,bP _ _ _ _,this.bel⟩
  clear hb1 hkI B0 hkr;go_wp2_with fail
  go_loopw [8,9] (fun v8 v9 wr=>∃i:Nat,i<=dn/\v9=.int .i64 i/\sh w ⟨5,cn,ct,LA,ln,lc,DA,dn,dc⟩ e (oy fs kI e v) i v8 wr) (fun _ v9 _=>dn-(intOf v9).toNat)
  ·exact⟨0,ON _,rfl,B1.out⟩
  case round=>
   obtain⟨i,hi,rfl,I⟩:=hrel;have J:=qD I;have q4:=I.b0.cell 4;simp at q4;by_cases hlt:i<dn
   ·obtain⟨p,hp⟩:∃p,fs[i]?=some p:=⟨_,OH (by have:=HFL.out;omega)⟩;obtain⟨b,off,rfl,_,hs0,hu,_⟩:=HS.out.Mw hp;have HQ:Hid ((oy fs kI e v)[i]?=some (if(i:Int)=kI then(e,.mk p.2.s v) else p)):=by rw[Hid,oS,hp];rfl
    have hbl:b<wr.heap.size:=by have:=hu.lt;have:=I.bel.size;omega
    have y5:=(I.bel.cell (p:=⟨b,off+i*6,none⟩) hu.lt).trans hs0;obtain⟨y0,y1,y2,y3,y4⟩:=hu.keep (I.bel.block b hu.lt);have hl0:=I.lo;clear hp hu I hs0;go_upto_region 9 with fail
    have KB:aG (wr.alloc (.cells (cw p).toArray 77)) wr.heap.size 77 (cw p).toArray:=aG.Mm rfl;have K:=J.out.step ((OG wr.heap.size wr).alloc (qL) (Obj.cells (cw p).toArray 77));have hno:u8.ownBlock≠some wr.heap.size:=fun hh=>absurd (eO J.out.own hh) oM;clear y0 y1 y2 y3 y4 y5 q4;change (Code.region 9 _ _).wp _ _ _ (wr.alloc (.cells (cw p).toArray 77));generalize wr.alloc (.cells (cw p).toArray 77)=wa at*;generalize wr.heap.size=ga at*;have LB:=qD KB;have LK:=qD K;clear KB K
    go_upto_if 32 with fail
    go_cut [] (fun wx=>aG wx ga 77 (cw (if(i:Int)=kI then(e,.mk p.2.s v) else p)).toArray/\sh w ⟨5,cn,ct,LA,ln,lc,some ⟨b,off,none⟩,dn,dc⟩ e (oy fs kI e v) i u8 wx)
    case first=>as_aux_lemma=>
     by_cases hik:(i:Int)=kI
     ·subst hik;obtain⟨y5,y0,y1,y2,y3,y4⟩:=LB.out.field;obtain⟨v0,v1,v2,v3,v4⟩:=aO.Mn LK.out.b1;have z:=LB.out.frozen;have hne:w.heap.size+1≠ga:=oM
      go_wp2_with fail;go_meet;exact⟨by rw[OW trivial];exact LB.out.Nh e v,LK.out.Mu hl0 hno⟩
     ·have hik':((i:Int)==kI)=false:=by simp[hik]
      go_wp2_with fail;go_meet;exact⟨by rw[OQ hik];exact LB.out,LK.out⟩
    case rest=>
     obtain⟨KB,K⟩:=hcut;obtain⟨q,hq⟩:∃q,q=(if(i:Int)=kI then(e,.mk p.2.s v) else p):=⟨_,rfl⟩;rw[<-hq] at KB HQ;obtain⟨y5,y0,y1,y2,y3,y4⟩:=KB.field;have LK2:=qD (K.step ((OG wc.heap.size wc).alloc (qL) (Obj.cells (cw q).toArray 77)));have hl2:=K.lo;clear KB K hq;go_wp2_with (at_builtin;refine aE _ rfl _ _ 27 rfl (w.heap.size+3) 77 j0 (.agg (#[.string empty]++VC.zero.arr)) 6 96 QS hj0 hy0 hy1 hy2 rfl dE u8 i (aN cw ((oy fs kI e v).take i)) rfl LK2.out.own _ _ 1 _ (cw q) rfl ⟨rfl,fun _=>⟨_,rfl,On _,ag _ _ _⟩⟩ (js _) (by unfold maxLen;omega) oM ?c5 ?_)
     case c5=>first|omega|(simp;omega)
     intro v' w2 hown hg _;have HI:=qD (LK2.out.next HQ.out hg oM hown);clear hown hg y0 y1 y2 y3 y4 y5;go_wp2_with fail;go_roundw
     ·exact⟨i+1,by omega,by go_num,HI.out⟩
     ·exact iO
   ·obtain rfl:i=dn:=oM
    have hqr:∀q∈oy fs kI e v,q.2.s.size<=aF/\RV F w q.1 q.2.v:=by
     intro q hq;obtain⟨a,ha⟩:=PP hq;rw[oS] at ha;obtain⟨p,hp,rfl⟩:=PT.1 ha;have hm:=OJ hp;by_cases hik:(a:Int)=kI
     ·rw[OW hik];exact⟨HS.out.ns p hm,HE.out⟩
     ·rw[OQ hik];exact⟨HS.out.ns p hm,HS.out.rv p hm⟩
    have HQR:=qD hqr;have hl0:=I.lo;clear hqr I;rcases HKR.out with rfl|⟨j,rfl,hj⟩
    ·obtain⟨v0,v1,v2,v3,v4⟩:=aO.Mn J.out.b1;have LK2:=qD (J.out.step ((OG wr.heap.size wr).alloc (qL) (Obj.cells (cw (e,.mk name v)).toArray 77)));go_wp2_with (at_builtin;refine aE _ rfl _ _ 27 rfl (w.heap.size+3) 77 j0 (.agg (#[.string empty]++VC.zero.arr)) 6 96 QS hj0 hy0 hy1 hy2 rfl dE u8 i (aN cw ((oy fs (-1) e v).take i)) rfl LK2.out.own _ _ 1 _ (cw (e,.mk name v)) rfl ⟨rfl,fun _=>⟨_,rfl,On _,ag _ _ _⟩⟩ (js _) (by unfold maxLen;omega) oM ?c5 ?_)
     case c5=>first|omega|(simp;omega)
     intro v' w2 hown hg _;have HI:=qD (LK2.out.add (by rw[mH];exact HFL.out.symm) hg oM hown);clear hown hg v0 v1 v2 v3 v4 q4;obtain⟨A',cap,rfl,_⟩:=aY HI.out.own;obtain⟨a0,a1,a2,a3,a4⟩:=aO.Mn HI.out.b0;obtain⟨b0,b1,b2,b3,b4⟩:=aO.Mn HI.out.b2;have z0:=HI.out.b0.frozen;have z2:=HI.out.b2.frozen;go_wp2_with fail;have q:=aO.Mn (((HI.out.b2).Mu (p:=⟨w.heap.size,4,none⟩) (by show w.heap.size+1+1≠w.heap.size;omega) (.slice A' (i+1) cap)).putV ⟨5,cn,ct,LA,ln,lc,A',i+1,cap⟩);refine OO (aD rfl _ _ _ rfl _ ⟨5,cn,ct,LA,ln,lc,A',i+1,cap⟩ q) rfl ?_;refine HI.out.done H.out (by rw[OK,mH];simp[HFL.out]) hz (fun q hq=>?_) ?_
     ·rcases OP.1 hq with hq|hq
      ·exact HQR.out q hq
      ·simp at hq;subst hq;exact⟨HNm.out,HE.out⟩
     ·unfold ux;rw[OW HK.out.symm,OW (by have:=HKI.out;omega),Do,Oo,HFS.out];rfl
    ·obtain⟨A',cap,rfl,_⟩:=aY J.out.own;obtain⟨a0,a1,a2,a3,a4⟩:=aO.Mn J.out.b0;obtain⟨b0,b1,b2,b3,b4⟩:=aO.Mn J.out.b2;have z0:=J.out.b0.frozen;have z2:=J.out.b2.frozen;clear q4;go_wp2_with fail;have q:=aO.Mn (((J.out.b2).Mu (p:=⟨w.heap.size,4,none⟩) (by show w.heap.size+1+1≠w.heap.size;omega) (.slice A' i cap)).putV ⟨5,cn,ct,LA,ln,lc,A',i,cap⟩);refine OO (aD rfl _ _ _ rfl _ ⟨5,cn,ct,LA,ln,lc,A',i,cap⟩ q) rfl ?_;refine J.out.done H.out (by rw[mH];exact HFL.out.symm) (by unfold aF;omega) HQR.out ?_;unfold ux;have hki:=HKI.out;rw[OW HK.out.symm,OQ oM,Ga,HFS.out,<-hki];rfl
 ·have HK5:Hid (x.k≠5):=by rw[Hid,<-hk];exact h5
  have hc5:(ck != 5)=true:=by simp[h5]
  obtain⟨a0,a1,a2,a3,a4⟩:=aO.Mn B0.out.b0;obtain⟨b0,b1,b2,b3,b4⟩:=aO.Mn B0.out.b2;have z2:=B0.out.b2.frozen;clear h he hn hbig hdn hk h5 a0 a1 a2 a3 a4 b0 b1 b2 b3 b4 z2;go_enter func302,ntmps302;go_upto_region 1 with fail
  change (Code.region 1 _ _).wp _ _ _ (((w.alloc (.cells #[.int .i64 ck,.int .i64 cn,.string ct,.slice LA ln lc,.slice DA dn dc] 29)).alloc (.cells e.arr 29)).alloc (.cells VC.zero.arr 29));generalize ((w.alloc (.cells #[.int .i64 ck,.int .i64 cn,.string ct,.slice LA ln lc,.slice DA dn dc] 29)).alloc (.cells e.arr 29)).alloc (.cells VC.zero.arr 29)=wa at*;obtain⟨a0,a1,a2,a3,a4⟩:=aO.Mn B0.out.b0;obtain⟨b0,b1,b2,b3,b4⟩:=aO.Mn B0.out.b2;have z2:=B0.out.b2.frozen;go_wp2_with fail;have q:=aO.Mn (B0.out.b2.putV ⟨ck,cn,ct,LA,ln,lc,DA,dn,dc⟩);refine OO (aD rfl _ _ _ rfl _ ⟨ck,cn,ct,LA,ln,lc,DA,dn,dc⟩ q) rfl ?_;have hB:Bl w (bM wa (w.heap.size+1+1) 0 ⟨ck,cn,ct,LA,ln,lc,DA,dn,dc⟩):=aW B0.out.bel oM 0 ⟨ck,cn,ct,LA,ln,lc,DA,dn,dc⟩;refine⟨⟨ck,cn,ct,LA,ln,lc,DA,dn,dc⟩,rfl,?_,hB⟩;unfold ux;rw[OQ HK5.out];exact(H.out.step hB).mono fun _=>.inl
end
end Go.Proofs.YtgfoliedmhgpnaaGreatDoor
