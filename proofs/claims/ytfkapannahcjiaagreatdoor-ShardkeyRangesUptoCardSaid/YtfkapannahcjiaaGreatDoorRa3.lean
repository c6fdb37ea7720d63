/- Parts of the proof, joined: IvAll, PrPure, EncPure, EncOrder, PrNums, ValFind, ValClone, ValGet, ShAt, ValTake, ShKv. -/
import Derived.Test.YtfkapannahcjiaaGreatDoorRa1
import Derived.Test.YtfkapannahcjiaaGreatDoorRa2
import Derived.Laws.BytesArg
import Derived.Laws.Strings
set_option maxRecDepth 100000
set_option maxHeartbeats 16000000
set_option linter.unusedSimpArgs false
namespace Go.Proofs.YtfkapannahcjiaaGreatDoor
theorem cmC_zero{a b:Cut}(h:cmpV a.1 b.1=0):cmC a b=cmB a.2 b.2:=by unfold cmC lex;rw[if_neg (by simpa using h)]
theorem cmC_ne{a b:Cut}(h:cmpV a.1 b.1≠0):cmC a b=cmpV a.1 b.1:=by unfold cmC lex;rw[if_pos h]
def ptIv(v:Val):Iv:=⟨v,v,true,true⟩
theorem pt_ne(v:Val):(ptIv v).ne=validV v:=by
 unfold Iv.ne
 have:cmC (ptIv v).sp.1 (ptIv v).sp.2<0:=by
  rw[cmC_zero (a:=(ptIv v).sp.1) (b:=(ptIv v).sp.2) (cmpV_self v)]
  show cmB false true<0
  decide
 rw[decide_eq_true this]
 show(validV v&&validV v&&true)=validV v
 cases validV v<;>rfl
theorem valid_min:validV vMin=true:=valid_leaf (.inl rfl)
theorem valid_max:validV vMax=true:=valid_leaf (.inr rfl)
def allIv:Iv:=⟨vMin,vMax,true,true⟩
theorem min_lt_max:cmC (vMin,false) (vMax,true)<0:=by
 rw[cmC_ne (a:=(vMin,false)) (b:=(vMax,true)) (by rw[cmpV_kind (by decide)];decide)]
 show cmpV vMin vMax<0
 rw[cmpV_kind (by decide)];decide
theorem all_nf:IsNF (fun a=>inS cmC a (spansL [allIv])) [((vMin,false),(vMax,true))]:=by
 have hne:allIv.ne=true:=by
  unfold Iv.ne
  rw[decide_eq_true (show cmC allIv.sp.1 allIv.sp.2<0 from min_lt_max)]
  show(validV vMin&&validV vMax&&true)=true
  rw[valid_min,valid_max];rfl
 have e:spansL [allIv]=[((vMin,false),(vMax,true))]:=by unfold spansL;rw[List.filter_cons_of_pos hne];rfl
 refine⟨⟨fun s hs=>?_,by simp⟩,fun a=>by rw[e]⟩
 simp at hs
 subst hs
 exact⟨min_lt_max,valid_min,valid_max⟩
open Go.RowKit
def stripN(s:ByteArray):Nat→Nat
 | 0=>0
 | n+1=>if s.data[n]?=some 255 then stripN s n else n+1
def afterB(s:ByteArray):Option ByteArray:=match stripN s s.size with
 | 0=>none
 | n+1=>some (s.extract 0 n++⟨#[s.data[n]?.getD 0+1]⟩)
theorem stripN_le(s:ByteArray):∀n,stripN s n≤n:=by
 intro n
 induction n with
 | zero=>exact qL
 | succ n ih=>unfold stripN;split<;>omega
def vKd(k:Int):Val:=.mk k 0 ByteArray.empty [] []
def zero12:ByteArray:=⟨#[0,0,0,0,0,0,0,0,0,0,0,0]⟩
def leastV(k:Int):Val:=if k=3 then .mk k (-9223372036854775808) ByteArray.empty [] [] else if k=8 then .mk k 0 zero12 [] [] else vKd k
def rangeI(k:Int):Iv:=
 if k=3∨k=10 then⟨leastV k,.mk k 9223372036854775807 ByteArray.empty [] [],true,true⟩
 else if k=9 then⟨leastV k,.mk k 1 ByteArray.empty [] [],true,true⟩
 else if k=4∨k=5∨k=6∨k=7∨k=8 then⟨leastV k,leastV (k+1),true,false⟩
 else⟨leastV k,leastV k,true,true⟩
def limI(op:Int)(x:Val):Iv:=
 if op=4∨op=5 then⟨x,(rangeI x.k).hi,decide (op=5),(rangeI x.k).hin⟩
 else⟨(rangeI x.k).lo,x,(rangeI x.k).li,decide (op=7)⟩
noncomputable def preI(x:Val):Iv×Bool:=
 match afterB x.t with
 | some s=>if validV (.mk 4 0 s [] [])=true then(⟨x,.mk 4 0 s [] [],true,false⟩,true) else(⟨x,vKd 5,true,false⟩,decide (x.t=ByteArray.empty))
 | none=>(⟨x,vKd 5,true,false⟩,decide (x.t=ByteArray.empty))
noncomputable def leafI(op:Int)(arg:Val)(args:List Val)(n:Int):Option (List Iv×Bool):=
 if op=2 then(if arg.k=6 then none else some ([ptIv arg],decide (arg.k≠2)))
 else if op=4∨op=5∨op=6∨op=7 then(if arg.k=6 then none else some ([limI op arg],decide (arg.k≠2)))
 else if op=8 then(if ∃x∈args,x.k=6 then none else some (args.map ptIv,decide (¬∃x∈args,x.k=2)))
 else if op=16 then some ([(preI arg).1],(preI arg).2)
 else if op=11 then(if n=6 then none else some ([rangeI n],decide (n≠2)))
 else none
def allS:Cut→Prop:=fun a=>inS cmC a (spansL [allIv])
abbrev PSet:=(Cut→Prop)×Bool
noncomputable def leafS(op:Int)(arg:Val)(args:List Val)(n:Int):PSet:=match leafI op arg args n with
 | some r=>(fun a=>inS cmC a (spansL r.1),r.2)
 | none=>(allS,false)
open Classical in
noncomputable def isAllB(S:Cut→Prop):Bool:=decide (∀a,VC1 a→(S a↔allS a))
noncomputable def firstS:List PSet→PSet
 | []=>(allS,false)
 | r::rs=>if isAllB r.1 then firstS rs else(r.1,false)
noncomputable def andS(rs:List PSet):PSet:=match rs with
 | [r]=>r
 | _=>firstS rs
noncomputable def orS(rs:List PSet):PSet:=if rs.any (fun r=>isAllB r.1) then(allS,false) else(fun a=>∃r∈rs,r.1 a,rs.all fun r=>r.2)
noncomputable def ofS(l:List ByteArray):PrT→PSet
 | .mk op path arg args n _ _ _ _ _ _ _ _ kids=>if op=20 then andS (ofSs l kids) else if op=21 then orS (ofSs l kids) else if path.xs=l then leafS op arg.2 (args.xs.map Prod.snd) n else(allS,false)
where ofSs (l:List ByteArray):List PrT→List PSet
 | []=>[]
 | x::r=>ofS l x::ofSs l r
theorem ofSs_map(l:List ByteArray)(ks:List PrT):ofS.ofSs l ks=ks.map (ofS l):=by
 induction ks with
 | nil=>rfl
 | cons x r ih=>simp[ofS.ofSs,ih]
theorem ofS_eq(l:List ByteArray)(p:PrT):ofS l p=if p.op=20 then andS (p.kids.map (ofS l)) else if p.op=21 then orS (p.kids.map (ofS l)) else if p.path.xs=l then leafS p.op p.arg.2 (p.args.xs.map Prod.snd) p.n else(allS,false):=by
 cases p
 simp only[ofS,ofSs_map]
 rfl
theorem ofS_and{l:List ByteArray}{p:PrT}(h:p.op=20):ofS l p=andS (p.kids.map (ofS l)):=by rw[ofS_eq,if_pos h]
theorem ofS_or{l:List ByteArray}{p:PrT}(h:p.op=21):ofS l p=orS (p.kids.map (ofS l)):=by rw[ofS_eq,if_neg (by omega),if_pos h]
theorem ofS_leaf{l:List ByteArray}{p:PrT}(h:p.op≠20)(h':p.op≠21)(hp:p.path.xs=l):ofS l p=leafS p.op p.arg.2 (p.args.xs.map Prod.snd) p.n:=by rw[ofS_eq,if_neg h,if_neg h',if_pos hp]
theorem ofS_else{l:List ByteArray}{p:PrT}(h:p.op≠20)(h':p.op≠21)(hp:p.path.xs≠l):ofS l p=(allS,false):=by rw[ofS_eq,if_neg h,if_neg h',if_neg hp]
def PrT.sz:PrT→Nat
 | .mk _ _ _ args _ _ _ _ _ _ _ _ _ kids=>1+args.n+szL kids
where szL:List PrT→Nat
 | []=>0
 | x::r=>x.sz+szL r
theorem PrT.sz_eq(p:PrT):p.sz=1+p.args.n+PrT.sz.szL p.kids:=by cases p;rfl
theorem szL_ge{l:List PrT}{k:PrT}(h:k∈l):k.sz≤PrT.sz.szL l:=by
 induction l with
 | nil=>cases h
 | cons x r ih=>
  simp only[PrT.sz.szL]
  rcases List.mem_cons.1 h with rfl|h
  ·omega
  ·have:=ih h;omega
theorem szL_take(l:List PrT)(i:Nat){k:PrT}(h:l[i]?=some k):PrT.sz.szL (l.take (i+1))=PrT.sz.szL (l.take i)+k.sz:=by
 induction l generalizing i with
 | nil=>simp at h
 | cons x r ih=>
  cases i with
  | zero=>simp at h;subst h;simp[PrT.sz.szL]
  | succ i=>
   have:=ih i (by simpa using h)
   simp only[List.take_succ_cons,PrT.sz.szL] at*
   omega
theorem szL_take_le(l:List PrT)(i:Nat):PrT.sz.szL (l.take i)≤PrT.sz.szL l:=by
 induction l generalizing i with
 | nil=>simp
 | cons x r ih=>
  cases i with
  | zero=>simp[PrT.sz.szL]
  | succ i=>have:=ih i;simp only[List.take_succ_cons,PrT.sz.szL];omega
theorem sz_le{w:World}:∀{p:PrT},WP w p→p.sz≤p.nodes*1048577:=by
 intro p
 induction p using PrT.ind with
 | h p ih=>
  intro h
  have o:=h.open
  rw[p.sz_eq,p.nodes_eq]
  have key:∀l:List PrT,(∀k∈l,k.sz≤k.nodes*1048577)→PrT.sz.szL l≤PrT.nodes.nodesL l*1048577:=by
   intro l
   induction l with
   | nil=>intro _;simp[PrT.sz.szL]
   | cons x r ihl=>
    intro hl
    have h1:=hl x (by simp)
    have h2:=ihl fun k hk=>hl k (by simp[hk])
    simp only[PrT.sz.szL,PrT.nodes.nodesL,Nat.add_mul]
    omega
  have:=key p.kids fun k hk=>ih k hk (o.kids k hk)
  have:=o.few
  rw[Nat.add_mul]
  omega
def VPr:PrT→Prop
 | .mk op _ arg args n _ _ _ _ _ _ _ _ kids=>
  (op=2∨op=4∨op=5∨op=6∨op=7∨op=16→validV arg.2=true)∧(op=8→∀x∈args.xs,validV x.2=true)∧(op=16→arg.2.k=4)∧(op=11→1≤n∧n≤11)∧
   (op=20∨op=21→kids≠[])∧(op=20∨op=21→VPs kids)
where VPs:List PrT→Prop
 | []=>True
 | x::r=>VPr x∧VPs r
theorem vps_iff{l:List PrT}:VPr.VPs l↔∀k∈l,VPr k:=by
 induction l with
 | nil=>simp[VPr.VPs]
 | cons y r ih=>simp[VPr.VPs,ih]
structure VPo(p:PrT):Prop where
 arg:p.op=2∨p.op=4∨p.op=5∨p.op=6∨p.op=7∨p.op=16→validV p.arg.2=true
 args:p.op=8→∀x∈p.args.xs,validV x.2=true
 text:p.op=16→p.arg.2.k=4
 kind:p.op=11→1≤p.n∧p.n≤11
 ne:p.op=20∨p.op=21→p.kids≠[]
 kids:p.op=20∨p.op=21→∀k∈p.kids,VPr k
theorem VPr.open{p:PrT}(h:VPr p):VPo p:=by
 cases p
 obtain⟨h1,h2,h3,h4,h5,h6⟩:=h
 exact⟨h1,h2,h3,h4,h5,fun h=>vps_iff.1 (h6 h)⟩
theorem VPo.shut{p:PrT}(h:VPo p):VPr p:=by
 cases p
 exact⟨h.arg,h.args,h.text,h.kind,h.ne,fun h'=>vps_iff.2 (h.kids h')⟩
open Classical in
theorem isAllB_true{S:Cut→Prop}:isAllB S=true↔∀a,VC1 a→(S a↔allS a):=by
 unfold isAllB
 exact decide_eq_true_iff
theorem nf_isAll{S:Cut→Prop}{n:List (Cut×Cut)}(h:IsNF S n):(n=[((vMin,false),(vMax,true))])↔isAllB S=true:=by
 rw[isAllB_true]
 constructor
 ·rintro rfl a _
  rw[←h.2 a]
  exact all_nf.2 a
 ·intro k
  exact h.unique all_nf k
def U64(n:Int):Nat:=((n+9223372036854775808)%18446744073709551616).toNat
def num8(n:Int)(s:Nat):Int:=((U64 n/2^s%256:Nat):Int)
def numsTo(n:Int)(i:Nat):List Int:=(List.range i).map fun j=>num8 n (56-8*j)
def nums(n:Int):List Int:=numsTo n 8
theorem numsTo_succ(n:Int)(i:Nat):numsTo n (i+1)=numsTo n i++[num8 n (56-8*i)]:=by
 unfold numsTo
 rw[List.range_succ,List.map_append]
 rfl
theorem numsTo_len(n:Int)(i:Nat):(numsTo n i).length=i:=by simp[numsTo]
theorem num8_lt(n:Int)(s:Nat):0≤num8 n s∧num8 n s<256:=by
 unfold num8
 omega
def byteN(x:UInt8):List Int:=if x=0 then [0,255] else [(x.toNat:Int)]
def textN:List UInt8→List Int
 | []=>[]
 | x::r=>byteN x++textN r
def strN(s:ByteArray):List Int:=s.data.toList.map fun x=>(x.toNat:Int)
mutual
def encV:Val→List Int
 | .mk k n t l d=>k::(if k=3∨k=9∨k=10 then nums n else if k=4∨k=7∨k=8 then textN t.data.toList++[0,0] else if k=6 then encL l++[0] else if k=5 then encD d++[0] else [])
def encL:List Val→List Int
 | []=>[]
 | v::r=>1::(encV v++encL r)
def encD:List Fld→List Int
 | []=>[]
 | f::r=>encF f++encD r
def encF:Fld→List Int
 | .mk s v=>1::(strN s++0::encV v)
end
theorem encF_eq(f:Fld):encF f=1::(strN f.s++0::encV f.v):=by cases f;simp only[encF];rfl
theorem encV_eq(x:Val):encV x=x.k::(if x.k=3∨x.k=9∨x.k=10 then nums x.n else if x.k=4∨x.k=7∨x.k=8 then textN x.t.data.toList++[0,0] else if x.k=6 then encL x.l++[0] else if x.k=5 then encD x.d++[0] else []):=by cases x;rw[encV];rfl
theorem encL_append:∀l m:List Val,encL (l++m)=encL l++encL m
 | [],m=>rfl
 | a::r,m=>by rw[List.cons_append,encL,encL,encL_append r m];simp
theorem encD_append:∀l m:List Fld,encD (l++m)=encD l++encD m
 | [],m=>rfl
 | a::r,m=>by rw[List.cons_append,encD,encD,encD_append r m];simp
theorem encL_snoc{l:List Val}{i:Nat}{y:Val}(h:l[i]?=some y):encL (l.take (i+1))=encL (l.take i)++1::encV y:=by
 rw[take_snoc' h,encL_append,encL,encL]
 simp
theorem encD_snoc{l:List Fld}{i:Nat}{y:Fld}(h:l[i]?=some y):encD (l.take (i+1))=encD (l.take i)++(1::(strN y.s++0::encV y.v)):=by
 rw[take_snoc' h,encD_append,encD,encD,encF_eq]
 simp
theorem textN_append:∀l m:List UInt8,textN (l++m)=textN l++textN m
 | [],m=>rfl
 | a::r,m=>by
  rw[List.cons_append,textN,textN,textN_append r m,List.append_assoc]
theorem textN_snoc{l:List UInt8}{i:Nat}{y:UInt8}(h:l[i]?=some y):textN (l.take (i+1))=textN (l.take i)++byteN y:=by
 rw[take_snoc' h,textN_append,textN,textN]
 simp
theorem textN_len:∀l:List UInt8,(textN l).length≤2*l.length
 | []=>by simp[textN]
 | a::r=>by
  have:=textN_len r
  rw[textN,byteN]
  split<;>simp<;>omega
def encAll(l:List Val):List Int:=l.flatMap encV
theorem encAll_snoc{l:List Val}{i:Nat}{y:Val}(h:l[i]?=some y):encAll (l.take (i+1))=encAll (l.take i)++encV y:=by
 rw[take_snoc' h]
 simp[encAll]
theorem dsize(t:ByteArray):t.data.toList.length=t.size:=by rw[Array.length_toList];rfl
theorem HeadP.text{k n:Int}{t:ByteArray}{ln dn:Nat}(h:HeadP k n t ln dn):t.data.toList.length≤4096:=by
 have e:=dsize t
 obtain⟨_,h2,_,_,h5⟩:=h
 rw[e]
 rcases h2 with h|h|h|h<;>rcases h5 with h' | h' | h' | h' | ⟨h',_⟩|⟨h',_⟩|⟨h',h'',_⟩|⟨h',h''⟩|⟨h',h''⟩|h' | h'<;>omega
theorem HeadP.kind{k n:Int}{t:ByteArray}{ln dn:Nat}(h:HeadP k n t ln dn):1≤k∧k≤11:=by
 obtain⟨_,_,_,_,h5⟩:=h
 rcases h5 with h' | h' | h' | h' | ⟨h',_⟩|⟨h',_⟩|⟨h',h'',_⟩|⟨h',h''⟩|⟨h',h''⟩|h' | h'<;>omega
theorem encL_len:∀{l:List Val},(∀y∈l,(encV y).length+40≤8300*y.size)→(encL l).length≤8300*sizeL l
 | [],_=>by simp[encL,sizeL]
 | a::r,h=>by
  have h1:=h a (by simp)
  have h2:=encL_len (l:=r) fun y hy=>h y (by simp[hy])
  rw[encL,sizeL]
  simp
  omega
theorem name_len{s:ByteArray}(h:nameB s=true):(strN s).length≤32:=by
 simp only[nameB,Bool.and_eq_true,decide_eq_true_eq] at h
 have e:=dsize s
 unfold strN
 rw[List.length_map,e]
 exact h.1.1.2
theorem encD_len:∀{l:List Fld},(∀f∈l,nameB f.s=true∧(encV f.v).length+40≤8300*f.v.size)→(encD l).length≤8300*sizeL (l.map Fld.v)
 | [],_=>by simp[encD,sizeL]
 | a::r,h=>by
  obtain⟨h0,h1⟩:=h a (by simp)
  have h2:=encD_len (l:=r) fun y hy=>h y (by simp[hy])
  have h3:=name_len h0
  rw[encD,List.map_cons,sizeL,encF_eq]
  simp
  omega
theorem enc_len(x:Val):SoundV nameB x→(encV x).length+40≤8300*x.size:=by
 induction x using Val.ind with
 | h k n t l d ihl ihd=>
  intro hs
  obtain⟨hh,hl,hd,hn⟩:=(SoundV_iff nameB _).1 hs
  simp only[Val.k,Val.n,Val.t,Val.l,Val.d] at hh hl hd hn
  have ht:=hh.text
  have e:=size_parts (.mk k n t l d)
  rw[encV_eq,e]
  show(k::(if k=3∨k=9∨k=10 then nums n else if k=4∨k=7∨k=8 then textN t.data.toList++[0,0] else if k=6 then encL l++[0] else if k=5 then encD d++[0] else [])).length+40≤8300*(1+sizeL (if k=6 then l else if k=5 then d.map Fld.v else []))
  have hx:=textN_len t.data.toList
  by_cases h1:k=3∨k=9∨k=10
  ·rw[if_pos h1]
   have:=numsTo_len n 8
   simp only[List.length_cons,nums]
   omega
  rw[if_neg h1]
  by_cases h2:k=4∨k=7∨k=8
  ·rw[if_pos h2]
   simp only[List.length_cons,List.length_append,List.length_nil]
   omega
  rw[if_neg h2]
  by_cases h6:k=6
  ·rw[if_pos h6,if_pos h6]
   have:=encL_len (l:=l) fun y hy=>ihl y hy (hl y hy)
   simp only[List.length_cons,List.length_append,List.length_nil]
   omega
  rw[if_neg h6,if_neg h6]
  by_cases h5:k=5
  ·rw[if_pos h5,if_pos h5]
   have:=encD_len (l:=d) fun f hf=>⟨hn.1 f hf,ihd f hf (hd f hf)⟩
   simp only[List.length_cons,List.length_append,List.length_nil]
   omega
  ·rw[if_neg h5,if_neg h5]
   simp only[List.length_cons,List.length_nil]
   omega
def missB(x:Val):Bool:=decide (x.k=0)&&(decide (x.n=0)&&(decide (x.t.size=0)&&(decide (x.l.length=0)&&decide (x.d.length=0))))
noncomputable def allowB(x:Val):Bool:=missB x||validV x
def Enc1(x:Val):Prop:=missB x=true∨SoundV nameB x
theorem allow_enc{x:Val}(h:allowB x=true):Enc1 x∧(encV x).length≤8500000:=by
 unfold allowB at h
 rw[Bool.or_eq_true] at h
 rcases h with h|h
 ·refine⟨.inl h,?_⟩
  simp only[missB,Bool.and_eq_true,decide_eq_true_eq] at h
  rw[encV_eq,h.1]
  simp
 ·simp only[validV,Bool.and_eq_true,decide_eq_true_eq] at h
  have hs:=soundB_iff.1 h.2
  refine⟨.inr hs,?_⟩
  have:=enc_len x hs
  have:=h.1.1
  omega
theorem Enc1.kind{x:Val}(h:Enc1 x):0≤x.k∧x.k≤11:=by
 rcases h with h|h
 ·simp only[missB,Bool.and_eq_true,decide_eq_true_eq] at h
  omega
 ·have:=((SoundV_iff nameB x).1 h).1.kind
  omega
theorem Enc1.text{x:Val}(h:Enc1 x):x.t.size≤4096:=by
 rcases h with h|h
 ·simp only[missB,Bool.and_eq_true,decide_eq_true_eq] at h
  omega
 ·have:=((SoundV_iff nameB x).1 h).1.text
  rwa [dsize] at this
theorem Enc1.list{x:Val}(h:Enc1 x):∀y∈x.l,Enc1 y:=by
 intro y hy
 rcases h with h|h
 ·simp only[missB,Bool.and_eq_true,decide_eq_true_eq] at h
  have:=List.eq_nil_of_length_eq_zero h.2.2.2.1
  rw[this] at hy
  cases hy
 ·exact .inr (((SoundV_iff nameB x).1 h).2.1 y hy)
theorem Enc1.doc{x:Val}(h:Enc1 x):∀f∈x.d,Enc1 f.v∧nameB f.s=true:=by
 intro y hy
 rcases h with h|h
 ·simp only[missB,Bool.and_eq_true,decide_eq_true_eq] at h
  have:=List.eq_nil_of_length_eq_zero h.2.2.2.2
  rw[this] at hy
  cases hy
 ·exact⟨.inr (((SoundV_iff nameB x).1 h).2.2.1 y hy),((SoundV_iff nameB x).1 h).2.2.2.1 y hy⟩
def bytesC(l:List Int):List Value:=l.map (Value.int .u8)
theorem bytesC_app(l m:List Int):bytesC (l++m)=bytesC l++bytesC m:=by simp[bytesC]
theorem strOfNums_append(l m:List Int):strOfNums (l++m)=strOfNums l++strOfNums m:=by
 apply ByteArray.ext
 simp[strOfNums]
theorem strOfNums_strN(s:ByteArray):strOfNums (strN s)=s:=by
 apply ByteArray.ext
 apply Array.ext'
 simp only[strOfNums,strN,List.map_map,List.toList_toArray]
 conv=>rhs;rw[←List.map_id s.data.toList]
 apply List.map_congr_left
 intro x _
 simp
theorem strOfNums_nil:strOfNums []=ByteArray.empty:=rfl
theorem strN_len(s:ByteArray):(strN s).length=s.size:=by rw[strN,List.length_map,dsize]
def lexI:List Int→List Int→Int
 | [],[]=>0
 | [],_::_=>-1
 | _::_,[]=>1
 | a::r,b::s=>if a<b then -1 else if b<a then 1 else lexI r s
theorem lexI_same:∀(p a b:List Int),lexI (p++a) (p++b)=lexI a b
 | [],a,b=>rfl
 | x::p,a,b=>by rw[List.cons_append,List.cons_append,lexI,if_neg (by omega),if_neg (by omega),lexI_same p a b]
theorem lexI_cons(x:Int)(a b:List Int):lexI (x::a) (x::b)=lexI a b:=lexI_same [x] a b
theorem lexI_lt{x y:Int}(h:x<y)(a b:List Int):lexI (x::a) (y::b)=-1:=by rw[lexI,if_pos h]
theorem lexI_gt{x y:Int}(h:y<x)(a b:List Int):lexI (x::a) (y::b)=1:=by rw[lexI,if_neg (by omega),if_pos h]
theorem lexI_eq:∀{a b:List Int},lexI a b=0→a=b
 | [],[],_=>rfl
 | [],_::_,h=>by rw[lexI] at h;omega
 | _::_,[],h=>by rw[lexI] at h;omega
 | x::r,y::s,h=>by
  rw[lexI] at h
  split at h
  ·omega
  split at h
  ·omega
  rw[show x=y by omega,lexI_eq h]
theorem lexI_bytes:∀l m:List UInt8,Lib.compareBytes l m=lexI (l.map fun x=>(x.toNat:Int)) (m.map fun x=>(x.toNat:Int))
 | [],[]=>rfl
 | [],_::_=>rfl
 | _::_,[]=>rfl
 | a::r,b::s=>by
  rw[List.map_cons,List.map_cons,lexI,Lib.compareBytes,lexI_bytes r s]
  have e:∀p q:UInt8,p<q↔(p.toNat:Int)<(q.toNat:Int):=fun p q=>by rw[UInt8.lt_iff_toNat_lt];omega
  by_cases h:a<b
  ·rw[if_pos h,if_pos ((e a b).1 h)]
  ·have h2:¬((a.toNat:Int)<(b.toNat:Int)):=fun h'=>h ((e a b).2 h')
   by_cases g:b<a
   ·rw[if_neg h,if_pos g,if_neg h2,if_pos ((e b a).1 g)]
   ·have g2:¬((b.toNat:Int)<(a.toNat:Int)):=fun h'=>g ((e b a).2 h')
    rw[if_neg h,if_neg g,if_neg h2,if_neg g2]
def orI(c d:Int):Int:=if c≠0 then c else d
theorem orI_zero(d:Int):orI 0 d=d:=rfl
theorem orI_ne{c:Int}(h:c≠0)(d:Int):orI c d=c:=by unfold orI;rw[if_pos h]
theorem orI_assoc(a b c:Int):orI (orI a b) c=orI a (orI b c):=by
 unfold orI
 by_cases h:a=0<;>simp[h]
def dig:Nat→Nat→List Int
 | 0,_=>[]
 | k+1,u=>((u/256^k%256:Nat):Int)::dig k u
theorem dig_order(a b:List Int)(u v:Nat):∀k,lexI (dig k u++a) (dig k v++b)=orI (cmpI ((u%256^k:Nat):Int) ((v%256^k:Nat):Int)) (lexI a b)
 | 0=>by
  have e:∀x:Nat,x%256^0=0:=fun x=>by simp[Nat.mod_one]
  rw[e,e,cmpI_nat,if_neg (by omega),if_neg (by omega),orI_zero]
  rfl
 | k+1=>by
  have e:∀x:Nat,x%256^(k+1)=256^k*(x/256^k%256)+x%256^k:=fun x=>by
   rw[Nat.pow_succ,Nat.mod_mul,Nat.add_comm]
  have hp:0<256^k:=Nat.pow_pos (by omega)
  have hu:=Nat.mod_lt u hp
  have hv:=Nat.mod_lt v hp
  rw[dig,dig,List.cons_append,List.cons_append]
  rcases Nat.lt_trichotomy (u/256^k%256) (v/256^k%256) with h|h|h
  ·have hm:=Nat.mul_le_mul_left (256^k) (Nat.succ_le_of_lt h)
   rw[Nat.mul_succ] at hm
   rw[lexI_lt (by omega),e,e,cmpI_nat,if_pos (by omega)]
   rfl
  ·rw[h,lexI_cons,dig_order a b u v k,e,e,h]
   congr 1
   rw[cmpI_nat,cmpI_nat]
   generalize 256^k*(v/256^k%256)=D
   generalize u%256^k=U at*
   generalize v%256^k=V at*
   rcases Nat.lt_trichotomy U V with h1|h1|h1
   ·have h2:D+U<D+V:=by omega
    rw[if_pos h1,if_pos h2]
   ·subst h1
    rw[if_neg (Nat.lt_irrefl _),if_neg (Nat.lt_irrefl _),if_neg (Nat.lt_irrefl _),if_neg (Nat.lt_irrefl _)]
   ·have h2:¬U<V:=by omega
    have h3:¬D+U<D+V:=by omega
    have h4:D+V<D+U:=by omega
    rw[if_neg h2,if_pos h1,if_neg h3,if_pos h4]
  ·have hm:=Nat.mul_le_mul_left (256^k) (Nat.succ_le_of_lt h)
   rw[Nat.mul_succ] at hm
   rw[lexI_gt (by omega),e,e,cmpI_nat,if_neg (by omega),if_pos (by omega)]
   rfl
theorem nums_dig(n:Int):nums n=dig 8 (U64 n):=by
 simp[nums,numsTo,num8,dig,List.range,List.range.loop]
def In64(n:Int):Prop:=-9223372036854775808≤n∧n≤9223372036854775807
theorem nums_order{n m:Int}(hn:In64 n)(hm:In64 m)(a b:List Int):lexI (nums n++a) (nums m++b)=orI (cmpI n m) (lexI a b):=by
 unfold In64 at hn hm
 rw[nums_dig,nums_dig,dig_order]
 congr 1
 have e:∀x:Int,-9223372036854775808≤x∧x≤9223372036854775807→((U64 x%256^8:Nat):Int)=x+9223372036854775808:=fun x hx=>by
  have h8:(256:Nat)^8=18446744073709551616:=by decide
  unfold U64
  rw[h8]
  omega
 rw[e n hn,e m hm]
 unfold cmpI Lib.compareInt
 by_cases h1:n<m
 ·rw[if_pos (by omega),if_pos h1]
 ·rw[if_neg (by omega),if_neg h1]
  by_cases h2:n>m
  ·rw[if_pos (by omega),if_pos h2]
  ·rw[if_neg (by omega),if_neg h2]
theorem u8_pos{x:UInt8}(h:x≠0):0<x.toNat:=by
 rcases Nat.eq_zero_or_pos x.toNat with h0|h0
 ·exact absurd (UInt8.toNat_inj.1 h0) h
 ·exact h0
theorem byteN_zero:byteN 0=[0,255]:=rfl
theorem byteN_pos{x:UInt8}(h:x≠0):byteN x=[(x.toNat:Int)]:=by unfold byteN;rw[if_neg h]
theorem text_order(a b:List Int):∀l m:List UInt8,lexI (textN l++(0::0::a)) (textN m++(0::0::b))=orI (Lib.compareBytes l m) (lexI a b)
 | [],[]=>by simp only[textN,List.nil_append,Lib.compareBytes,orI_zero];rw[lexI_cons,lexI_cons]
 | [],y::s=>by
  simp only[textN,List.nil_append,Lib.compareBytes]
  by_cases h:y=0
  ·subst h
   simp only[byteN_zero,List.cons_append,List.nil_append]
   rw[lexI_cons,lexI_lt (by omega)]
   rfl
  ·have:=u8_pos h
   simp only[byteN_pos h,List.cons_append,List.nil_append]
   rw[lexI_lt (by omega)]
   rfl
 | x::r,[]=>by
  simp only[textN,List.nil_append,Lib.compareBytes]
  by_cases h:x=0
  ·subst h
   simp only[byteN_zero,List.cons_append,List.nil_append]
   rw[lexI_cons,lexI_gt (by omega)]
   rfl
  ·have:=u8_pos h
   simp only[byteN_pos h,List.cons_append,List.nil_append]
   rw[lexI_gt (by omega)]
   rfl
 | x::r,y::s=>by
  simp only[textN,Lib.compareBytes,List.append_assoc]
  by_cases h:x<y
  ·have hl:=UInt8.lt_iff_toNat_lt.1 h
   rw[if_pos h]
   by_cases hx:x=0
   ·subst hx
    have hy:y≠0:=by rintro rfl;exact absurd hl (Nat.lt_irrefl _)
    have hz:(0:UInt8).toNat=0:=rfl
    have:=u8_pos hy
    simp only[byteN_zero,byteN_pos hy,List.cons_append,List.nil_append]
    rw[lexI_lt (by omega)]
    rfl
   ·have hy:y≠0:=by rintro rfl;exact absurd hl (Nat.not_lt_zero _)
    simp only[byteN_pos hx,byteN_pos hy,List.cons_append,List.nil_append]
    rw[lexI_lt (by omega)]
    rfl
  ·rw[if_neg h]
   by_cases g:y<x
   ·have hl:=UInt8.lt_iff_toNat_lt.1 g
    rw[if_pos g]
    by_cases hy:y=0
    ·subst hy
     have hx:x≠0:=by rintro rfl;exact absurd hl (Nat.lt_irrefl _)
     have:=u8_pos hx
     simp only[byteN_zero,byteN_pos hx,List.cons_append,List.nil_append]
     rw[lexI_gt (by omega)]
     rfl
    ·have hx:x≠0:=by rintro rfl;exact absurd hl (Nat.not_lt_zero _)
     simp only[byteN_pos hx,byteN_pos hy,List.cons_append,List.nil_append]
     rw[lexI_gt (by omega)]
     rfl
   ·have e:x=y:=by
     apply UInt8.toNat_inj.1
     have h1:¬x.toNat<y.toNat:=fun h'=>h (UInt8.lt_iff_toNat_lt.2 h')
     have h2:¬y.toNat<x.toNat:=fun h'=>g (UInt8.lt_iff_toNat_lt.2 h')
     omega
    subst e
    rw[if_neg g,lexI_same]
    exact text_order a b r s
theorem name_order(a b:List Int):∀l m:List UInt8,(∀x∈l,x≠0)→(∀x∈m,x≠0)→
 lexI ((l.map fun x=>(x.toNat:Int))++(0::a)) ((m.map fun x=>(x.toNat:Int))++(0::b))=orI (Lib.compareBytes l m) (lexI a b)
 | [],[],_,_=>by simp only[List.map_nil,List.nil_append,Lib.compareBytes,orI_zero];rw[lexI_cons]
 | [],y::s,_,hm=>by
  have:=u8_pos (hm y (by simp))
  simp only[List.map_nil,List.nil_append,List.map_cons,List.cons_append,Lib.compareBytes]
  rw[lexI_lt (by omega)]
  rfl
 | x::r,[],hl,_=>by
  have:=u8_pos (hl x (by simp))
  simp only[List.map_nil,List.nil_append,List.map_cons,List.cons_append,Lib.compareBytes]
  rw[lexI_gt (by omega)]
  rfl
 | x::r,y::s,hl,hm=>by
  simp only[List.map_cons,List.cons_append,Lib.compareBytes]
  by_cases h:x<y
  ·have h1:=UInt8.lt_iff_toNat_lt.1 h
   rw[if_pos h,lexI_lt (by omega)]
   rfl
  ·rw[if_neg h]
   by_cases g:y<x
   ·have h1:=UInt8.lt_iff_toNat_lt.1 g
    rw[if_pos g,lexI_gt (by omega)]
    rfl
   ·have e:x=y:=by
     apply UInt8.toNat_inj.1
     have h1:¬x.toNat<y.toNat:=fun h'=>h (UInt8.lt_iff_toNat_lt.2 h')
     have h2:¬y.toNat<x.toNat:=fun h'=>g (UInt8.lt_iff_toNat_lt.2 h')
     omega
    subst e
    rw[if_neg g,lexI_cons]
    exact name_order a b r s (fun x hx=>hl x (by simp[hx])) fun x hx=>hm x (by simp[hx])
theorem name_nz{s:ByteArray}(h:nameB s=true):∀x∈s.data.toList,x≠0:=by
 intro x hx e
 subst e
 simp only[nameB,Bool.and_eq_true] at h
 have:=List.all_eq_true.1 h.2 _ hx
 revert this
 decide
mutual
def NumsV:Val→Prop
 | .mk _ n _ l d=>In64 n∧NumsL l∧NumsD d
def NumsL:List Val→Prop
 | []=>True
 | x::r=>NumsV x∧NumsL r
def NumsD:List Fld→Prop
 | []=>True
 | f::r=>NumsF f∧NumsD r
def NumsF:Fld→Prop
 | .mk _ v=>NumsV v
end
theorem NumsL_iff(l:List Val):NumsL l↔∀y∈l,NumsV y:=by
 induction l with
 | nil=>simp[NumsL]
 | cons x r ih=>simp[NumsL,ih]
theorem NumsF_iff(f:Fld):NumsF f↔NumsV f.v:=by cases f;simp only[NumsF];rfl
theorem NumsD_iff(d:List Fld):NumsD d↔∀f∈d,NumsV f.v:=by
 induction d with
 | nil=>simp[NumsD]
 | cons x r ih=>simp[NumsD,ih,NumsF_iff]
theorem NumsV_iff(x:Val):NumsV x↔In64 x.n∧(∀y∈x.l,NumsV y)∧∀f∈x.d,NumsV f.v:=by
 cases x
 rw[NumsV,NumsL_iff,NumsD_iff]
 rfl
def Or1(x:Val):Prop:=SoundV nameB x∧NumsV x
theorem Or1.list{x:Val}(h:Or1 x):∀y∈x.l,Or1 y:=fun y hy=>⟨((SoundV_iff nameB x).1 h.1).2.1 y hy,((NumsV_iff x).1 h.2).2.1 y hy⟩
theorem Or1.doc{x:Val}(h:Or1 x):∀f∈x.d,Or1 f.v∧nameB f.s=true:=fun f hf=>⟨⟨((SoundV_iff nameB x).1 h.1).2.2.1 f hf,((NumsV_iff x).1 h.2).2.2 f hf⟩,((SoundV_iff nameB x).1 h.1).2.2.2.1 f hf⟩
def OrdV(x:Val):Prop:=∀y,Or1 x→Or1 y→∀a b,lexI (encV x++a) (encV y++b)=orI (cmpV x y) (lexI a b)
theorem list_order(a b:List Int):∀(l m:List Val),(∀x∈l,OrdV x∧Or1 x)→(∀y∈m,Or1 y)→lexI (encL l++(0::a)) (encL m++(0::b))=orI (cmpL l m) (lexI a b)
 | [],[],_,_=>by simp only[encL,List.nil_append,cmpL,List.isEmpty_nil,if_true,orI_zero];rw[lexI_cons]
 | [],y::s,_,_=>by
  simp only[encL,List.nil_append,List.cons_append,cmpL,List.isEmpty_cons]
  rw[lexI_lt (by omega)]
  rfl
 | x::r,[],_,_=>by
  simp only[encL,List.nil_append,List.cons_append,cmpL]
  rw[lexI_gt (by omega)]
  rfl
 | x::r,y::s,hl,hm=>by
  have h1:=hl x (by simp)
  have h2:=hm y (by simp)
  simp only[encL,List.cons_append,List.append_assoc,cmpL]
  rw[lexI_cons,h1.1 y h1.2 h2,list_order a b r s (fun z hz=>hl z (by simp[hz])) (fun z hz=>hm z (by simp[hz])),←orI_assoc]
  rfl
theorem doc_order(a b:List Int):∀(l m:List Fld),(∀f∈l,OrdV f.v∧Or1 f.v∧nameB f.s=true)→(∀g∈m,Or1 g.v∧nameB g.s=true)→lexI (encD l++(0::a)) (encD m++(0::b))=orI (cmpD l m) (lexI a b)
 | [],[],_,_=>by simp only[encD,List.nil_append,cmpD,List.isEmpty_nil,if_true,orI_zero];rw[lexI_cons]
 | [],y::s,_,_=>by
  simp only[encD,encF_eq,List.nil_append,List.cons_append,cmpD,List.isEmpty_cons]
  rw[lexI_lt (by omega)]
  rfl
 | x::r,[],_,_=>by
  simp only[encD,encF_eq,List.nil_append,List.cons_append,cmpD]
  rw[lexI_gt (by omega)]
  rfl
 | x::r,y::s,hl,hm=>by
  have h1:=hl x (by simp)
  have h2:=hm y (by simp)
  simp only[encD,encF_eq,List.cons_append,List.append_assoc,cmpD,cmpF_eq]
  rw[lexI_cons]
  unfold strN
  rw[name_order _ _ _ _ (name_nz h1.2.2) (name_nz h2.2),h1.1 y.v h1.2.1 h2.1,doc_order a b r s (fun z hz=>hl z (by simp[hz])) (fun z hz=>hm z (by simp[hz])),←orI_assoc,←orI_assoc]
  rfl
theorem enc_order(x:Val):OrdV x:=by
 induction x using Val.ind with
 | h k n t l d ihl ihd=>
  intro y hx hy a b
  rw[encV_eq,encV_eq,List.cons_append,List.cons_append,cmpV_eq]
  by_cases hk:(Val.mk k n t l d).k=y.k
  ·have hkk:¬((Val.mk k n t l d).k≠y.k):=fun h=>h hk
   rw[if_neg hkk,←hk,lexI_cons]
   have hxi:=(NumsV_iff _).1 hx.2
   have hyi:=(NumsV_iff _).1 hy.2
   by_cases h1:(Val.mk k n t l d).k=3∨(Val.mk k n t l d).k=9∨(Val.mk k n t l d).k=10
   ·rw[if_pos h1,if_pos h1,if_pos h1]
    exact nums_order hxi.1 hyi.1 a b
   rw[if_neg h1,if_neg h1,if_neg h1]
   by_cases h2:(Val.mk k n t l d).k=4∨(Val.mk k n t l d).k=7∨(Val.mk k n t l d).k=8
   ·rw[if_pos h2,if_pos h2,if_pos h2,List.append_assoc,List.append_assoc]
    exact text_order a b _ _
   rw[if_neg h2,if_neg h2,if_neg h2]
   by_cases h3:(Val.mk k n t l d).k=6
   ·rw[if_pos h3,if_pos h3,if_pos h3,List.append_assoc,List.append_assoc]
    exact list_order a b _ _ (fun z hz=>⟨ihl z hz,hx.list z hz⟩) fun z hz=>hy.list z hz
   rw[if_neg h3,if_neg h3,if_neg h3]
   by_cases h4:(Val.mk k n t l d).k=5
   ·rw[if_pos h4,if_pos h4,if_pos h4,List.append_assoc,List.append_assoc]
    exact doc_order a b _ _ (fun z hz=>⟨ihd z hz,hx.doc z hz⟩) fun z hz=>hy.doc z hz
   rw[if_neg h4,if_neg h4,if_neg h4]
   rfl
  ·rw[if_pos hk]
   unfold cmpI Lib.compareInt
   rcases Int.lt_trichotomy (Val.mk k n t l d).k y.k with h|h|h
   ·rw[if_pos h,lexI_lt h]
    rfl
   ·exact absurd h hk
   ·rw[if_neg (show ¬(Val.mk k n t l d).k<y.k by omega),if_pos h,lexI_gt h]
    rfl
def NumsP:PrT→Prop
 | .mk _ _ arg args _ _ _ _ _ _ _ _ _ kids=>NumsV arg.2∧(∀x∈args.xs,NumsV x.2)∧NumsPs kids
where NumsPs:List PrT→Prop
 | []=>True
 | x::r=>NumsP x∧NumsPs r
theorem numsPs_iff{l:List PrT}:NumsP.NumsPs l↔∀k∈l,NumsP k:=by
 induction l with
 | nil=>simp[NumsP.NumsPs]
 | cons y r ih=>simp[NumsP.NumsPs,ih]
theorem NumsP_iff(p:PrT):NumsP p↔NumsV p.arg.2∧(∀x∈p.args.xs,NumsV x.2)∧∀k∈p.kids,NumsP k:=by
 cases p
 simp only[NumsP,numsPs_iff]
 rfl
def findFrom(name:ByteArray):List Fld→Nat→Int
 | [],_=>-1
 | f::r,i=>if f.s.toList==name.toList then(i:Int) else findFrom name r (i+1)
def findI(x:Val)(name:ByteArray):Int:=if x.k==5 then findFrom name x.d 0 else -1
theorem find_any(x:Val)(c:VC)(name:ByteArray)(w:World)(h:RW w c x):
 Calls Tryz.prog 133 #[c.val,.string name] w fun e w'=>e=.returned (.int .i64 (findI x name))∧Below w.heap.size w w':=by
 have HO:=qD h.open
 clear h
 cases hk:(c.k != 5)
 ·have hn:c.dn≤140737488355328:=by have:=HO.out.dsz;unfold reach at this;omega
  have HE:Hid (findI x name=findFrom name x.d 0):=by
   have:=HO.out.k
   simp at hk
   simp[findI,←this,hk,Hid]
  go_enter Tryz.func133,Tryz.ntmps133
  go_wp2_with fail
  go_loopw [4,5,12] (fun v4 v5 v12 wr=>∃i:Nat,i≤c.dn∧v4=.int .i64 0∧v12=.int .i64 i∧findFrom name x.d 0=findFrom name (x.d.drop i) i∧Blk wr w.heap.size 29 c.arr∧Below w.heap.size w wr) (fun _ _ v12 _=>c.dn-(intOf v12).toNat)
  case atStart=>exact⟨0,Nat.zero_le _,rfl,rfl,rfl,Blk.new_at rfl,(Below.refl _ _).alloc (qL) _⟩
  case round=>
   obtain⟨i,hi,rfl,rfl,hall,N1,N2⟩:=hrel
   have e4:=N1.cell 4
   simp at e4
   have HA:=qD hall
   clear hall
   by_cases hlt:i<c.dn
   ·obtain⟨b,off,hDA,_,hel⟩:=HO.out.da (by omega)
    obtain⟨f,hf⟩:∃f,x.d[i]?=some f:=⟨_,List.getElem?_eq_getElem (by have:=HO.out.dn;omega)⟩
    obtain⟨hs,_,_⟩:=hel i f hf
    have hs':=(N2.cell (p:=⟨b,off+i*6,none⟩) (World.block_lt_of_cell? w _ hs)).trans hs
    rw[hDA] at e4
    have HD:=qD (drop_of hf)
    have J1:=qD N1
    have J2:=qD N2
    clear hs hel hf hDA N1 N2
    cases hq:(f.s.toList==name.toList)
    ·have HF:Hid (findFrom name x.d 0=findFrom name (x.d.drop (i+1)) (i+1)):=by rw[Hid,HA.out,HD.out,findFrom,hq];rfl
     go_wp2_with fail
     go_roundw
     case rel=>exact⟨i+1,by omega,rfl,by go_num,HF.out,J1.out,J2.out⟩
     case measure=>simp[intOf];omega
    ·have HF:Hid (findFrom name x.d 0=(i:Int)):=by rw[Hid,HA.out,HD.out,findFrom,hq];rfl
     go_wp2_with fail
     go_ret
     exact⟨by rw[HE.out,HF.out];rfl,J2.out⟩
   ·have HF:Hid (findFrom name x.d 0=-1):=by rw[Hid,HA.out,List.drop_of_length_le (by have:=HO.out.dn;omega)];rfl
    have J2:=qD N2
    clear N1 N2
    go_wp2_with fail
    go_ret
    exact⟨by rw[HE.out,HF.out];rfl,J2.out⟩
 ·have HE:Hid (findI x name=-1):=by
   have:=HO.out.k
   simp at hk
   simp[findI,←this,hk,Hid]
  go_enter Tryz.func133,Tryz.ntmps133
  go_wp2_with fail
  go_ret
  exact⟨by rw[HE.out];rfl,(Below.refl _ _).alloc (qL) _⟩
theorem clone_any(x:Val):∀(c:VC) (w:World),RW w c x→Calls Tryz.prog 134 #[c.val] w (CloneOk w x):=by
 induction x using Val.ind with
 | h k n t l d ihl ihd=>
 intro c w h
 obtain⟨ck,cn,ct,LA,ln,lc,DA,dn,dc⟩:=c
 obtain⟨i0,hi0,hz0,hz1,hz2⟩:=info_parts info_value
 obtain⟨j0,hj0,hy0,hy1,hy2⟩:=info_parts info_field
 have ho:=h.open
 have hls:ln*80≤140737488355328:=ho.lsz
 have hds:dn*96≤140737488355328:=ho.dsz
 have hll:ln=l.length:=ho.ln
 have hdl:dn=d.length:=ho.dn
 have hmk:=run_make_rowN (P:=Tryz.prog) 26 29 i0 VC.zero.val Tryz.underlying26 hi0 hz0 ln (by rw[hz2];omega) (by omega)
 have hmd:=run_make_rowN (P:=Tryz.prog) 27 59 j0 (.agg (#[.string ByteArray.empty]++VC.zero.arr)) Tryz.underlying27 hj0 hy0 dn (by rw[hy2];omega) (by omega)
 rw[hz1] at hmk
 rw[hy1] at hmd
 have hln:ln≤140737488355328:=by omega
 have hdn:dn≤140737488355328:=by omega
 have HLL:=qD hll
 have HDL:=qD hdl
 clear hll hdl
 have HI:=qD ihl
 have HJ:=qD ihd
 have HO:=qD ho
 clear ihl ihd ho h hi0 hz0 hz1 hz2 hj0 hy0 hy1 hy2
 go_enter Tryz.func134,Tryz.ntmps134
 go_upto_if 18 with fail
 go_cut [] (fun wx=>∃r,CSt w ⟨ck,cn,ct,LA,ln,lc,DA,dn,dc⟩ (.mk k n t l d) wx r)
 case first=>
  by_cases hl0:0<ln
  ·obtain⟨b,off,hLA,_,hel⟩:=HO.out.la hl0
   have hLA':LA=some ⟨b,off,none⟩:=hLA
   subst hLA'
   have HEL:=qD hel
   clear hLA hel
   have hd:decide (0<ln)=true:=by simpa using hl0
   rw[hd]
   clear hd
   go_wp2_with fail
   go_loopw [4,5,27] (fun v4 v5 v27 wr=>∃i:Nat,i≤ln∧v27=.int .i64 i∧CL w ⟨ck,cn,ct,some ⟨b,off,none⟩,ln,lc,DA,dn,dc⟩ l i wr) (fun _ _ v27 _=>ln-(intOf v27).toNat)
   case atStart=>
    refine⟨0,Nat.zero_le _,rfl,⟨((Blk.new_at rfl).alloc _).alloc _ |>.alloc _,((Blk.new_at (by simp)).alloc _).alloc _,(Blk.new_at (by simp)).alloc _,⟨_,Blk.new_at (by simp),size_madeCells _ _⟩,fun j y hj=>by omega,((((Below.refl _ _).alloc (qL) _).alloc (by simp) _).alloc (by simp;omega) _).alloc (by simp;omega) _⟩⟩
   case round=>
    obtain⟨i,hi,rfl,I⟩:=hrel
    have J:=qD I
    by_cases hlt:i<ln
    ·obtain⟨y,hy⟩:∃y,l[i]?=some y:=⟨_,List.getElem?_eq_getElem (by have:=HLL.out;omega)⟩
     obtain⟨u,hu,hr⟩:=HEL.out i y hy
     have hr':=hr.lt.step' I.bel
     obtain⟨u0,u1,u2,u3,u4⟩:=hu.keep (I.bel.block b hu.lt)
     have HY:=qD hy
     have HR:=qD hr'
     have HC:=qD (HI.out y (List.mem_of_getElem? hy))
     have hb:b<wr.heap.size:=by have:=hu.lt;have:=I.bel.size;omega
     have r3:=I.b2.cell 3
     simp at r3
     clear hy hr hr' hu I hmk hmd
     go_wp2_with fail
     have K:=J.out.step ((Below.refl wr.heap.size wr).alloc (qL) (Obj.cells u.arr 29))
     have KB:Blk (wr.alloc (.cells u.arr 29)) wr.heap.size 29 u.arr:=Blk.new_at rfl
     have KR:=HR.out.alloc (.cells u.arr 29)
     clear HR u0 u1 u2 u3 u4 r3
     have hga:w.heap.size+3<wr.heap.size:=J.out.row.lt
     generalize wr.alloc (.cells u.arr 29)=wa at*
     generalize wr.heap.size=ga at*
     have hne:w.heap.size+3≠ga:=by omega
     obtain⟨u0,u1,u2,u3,u4⟩:=VAt.of_blk KB
     simp only[Nat.zero_add] at u1 u2 u3 u4
     have r3:=K.b2.cell 3
     simp at r3
     have LB:=qD KB
     have LK:=qD K
     have LR:=qD KR
     clear KB K KR
     have hi0:(0:Int)≤(i:Int):=by omega
     have hi1:(i:Int)<(ln:Int):=by omega
     go_region_held3 (fun w'=>w'.cell? ⟨w.heap.size+2,3,none⟩=some (.slice (some ⟨w.heap.size+3,0,none⟩) ln ln)∧w'.cell? ⟨ga,0,none⟩=some (.int .i64 u.k)∧w'.cell? ⟨ga,1,none⟩=some (.int .i64 u.n)∧w'.cell? ⟨ga,2,none⟩=some (.string u.t)∧w'.cell? ⟨ga,3,none⟩=some (.slice u.LA u.ln u.lc)∧w'.cell? ⟨ga,4,none⟩=some (.slice u.DA u.dn u.dc))
      (first|go_keep|exact⟨s0,s1,s2,s3,s4,s5⟩|((try dsimp only);repeat' apply And.intro;all_goals go_keep))
      ((go_at_call 134;refine(HC.out u _ (LR.out.drewN 1)).mono ?_;rintro e w1 ⟨c',mid,rfl,hcl,hb1⟩;replace hb1:Below wa.heap.size wa w1:=hb1.undrewN;replace hcl:Cl wa.heap.size mid w1 c' y:=hcl;have s0:=(hb1.cell (p:=⟨w.heap.size+2,3,none⟩) LK.out.b2.lt).trans r3;have s1:=(hb1.cell (p:=⟨ga,0,none⟩) LB.out.lt).trans u0;have s2:=(hb1.cell (p:=⟨ga,1,none⟩) LB.out.lt).trans u1;have s3:=(hb1.cell (p:=⟨ga,2,none⟩) LB.out.lt).trans u2;have s4:=(hb1.cell (p:=⟨ga,3,none⟩) LB.out.lt).trans u3;have s5:=(hb1.cell (p:=⟨ga,4,none⟩) LB.out.lt).trans u4;have row:Row w1 (w.heap.size+3) 29 (ln*5):=(LK.out.step hb1).row;have z:=row.frozen;obtain⟨o0,p0⟩:=row.cell (i:=i*5) (by omega);obtain⟨o1,p1⟩:=row.cell (i:=i*5+1) (by omega);obtain⟨o2,p2⟩:=row.cell (i:=i*5+2) (by omega);obtain⟨o3,p3⟩:=row.cell (i:=i*5+3) (by omega);obtain⟨o4,p4⟩:=row.cell (i:=i*5+4) (by omega);have LC:=qD hcl;have LX:=qD (LK.out.step hb1);clear hcl hb1 row))
     clear s0 s1 s2 s3 s4 s5 p0 p1 p2 p3 p4 z u0 u1 u2 u3 u4 r3
     go_wp2_with fail
     go_roundw
     case rel=>exact⟨i+1,by omega,by go_num,LX.out.next hlt HY.out (LC.out.rv.mono fun q hq=>by have:=LK.out.row.lt;omega)⟩
     case measure=>simp[intOf];omega
    ·obtain rfl:i=ln:=by omega
     clear hmk hmd
     go_wp2_with fail
     go_meet
     exact⟨_,I.b0,I.b1,I.b2,I.bel,⟨rfl,rfl,rfl,rfl,rfl,rfl,rfl,rfl⟩,fun h=>absurd h (by show i≠0;omega),fun _=>⟨w.heap.size+3,rfl,qL,I.row,fun j y hj=>I.el j y (by have:=(List.getElem?_eq_some_iff.1 hj).1;have:=HLL.out;simp only[Val.l] at*;omega) hj⟩⟩
  ·have hz:ln=0:=by omega
   have hz':decide ((0:Int)<(ln:Int))=false:=by simp;omega
   subst hz
   clear hmk hmd
   go_wp2_with fail
   go_meet
   exact⟨⟨ck,cn,ct,none,0,0,none,0,0⟩,((Blk.new_at rfl).alloc _).alloc _,(Blk.new_at (by simp)).alloc _,Blk.new_at (by simp),(((Below.refl _ _).alloc (qL) _).alloc (by simp) _).alloc (by simp;omega) _,⟨rfl,rfl,rfl,rfl,rfl,rfl,rfl,rfl⟩,fun _=>rfl,fun h=>absurd h (Nat.lt_irrefl 0)⟩
 case rest=>
  obtain⟨r,I⟩:=hcut
  obtain⟨rk,rn,rt,rLA,rln,rlc,rDA,rdn,rdc⟩:=r
  have he:=I.e
  simp only at he
  obtain⟨rfl,rfl,rfl,rfl,rfl,rfl,rfl,rfl⟩:=he
  have e4:=I.b0.cell 4
  simp at e4
  have J:=qD I
  clear I hmk
  go_upto_if 42 with fail
  go_cut [] (fun wx=>∃r mid,CE w (.mk k n t l d) r mid wx)
  case first=>
   by_cases hd0:0<dn
   ·obtain⟨b,off,hDA,_,hel⟩:=HO.out.da hd0
    have hDA':DA=some ⟨b,off,none⟩:=hDA
    subst hDA'
    have HEL:=qD hel
    clear hDA hel
    have hd:decide (0<dn)=true:=by simpa using hd0
    rw[hd]
    clear hd
    have g0:=J.out.b2.cell 4
    have z0:=J.out.b2.frozen 4
    have l0:=J.out.b0.lt
    have l2:=J.out.b2.lt
    simp at g0
    go_wp2_with fail
    go_loopw [6,7,51] (fun v6 v7 v51 wr=>∃i:Nat,i≤dn∧v51=.int .i64 i∧CD w ⟨rk,rn,rt,LA,rlc,lc,some ⟨b,off,none⟩,dn,dc⟩ ⟨rk,rn,rt,rLA,rlc,rlc,none,0,0⟩ wc.heap.size l d i wr) (fun _ _ v51 _=>dn-(intOf v51).toNat)
    case atStart=>
     refine⟨0,Nat.zero_le _,rfl,?_⟩
     exact CD.start J.out
    case round=>
     obtain⟨i,hi,rfl,I⟩:=hrel
     have J2:=qD I
     clear g0 z0 e4 hmd
     by_cases hlt:i<dn
     ·obtain⟨f,hf⟩:∃f,d[i]?=some f:=⟨_,List.getElem?_eq_getElem (by have:=HDL.out;omega)⟩
      obtain⟨hs,hz,u,hu,hr⟩:=HEL.out i f hf
      have hr':=hr.lt.step' I.bel
      have s0:=(I.bel.cell (p:=⟨b,off+i*6,none⟩) hu.lt).trans hs
      obtain⟨u0,u1,u2,u3,u4⟩:=hu.keep (I.bel.block b hu.lt)
      have HY:=qD hf
      have HR:=qD hr'
      have HC:=qD (HJ.out f (List.mem_of_getElem? hf))
      have hb:b<wr.heap.size:=by have:=hu.lt;have:=I.bel.size;omega
      have r3:=I.b2.cell 4
      simp at r3
      clear hf hr hr' hu I hs hz
      go_wp2_with fail
      have K:=J2.out.step ((Below.refl wr.heap.size wr).alloc (qL) (Obj.cells #[.string f.s,.int .i64 u.k,.int .i64 u.n,.string u.t,.slice u.LA u.ln u.lc,.slice u.DA u.dn u.dc] 59))
      have KB:Blk (wr.alloc (.cells #[.string f.s,.int .i64 u.k,.int .i64 u.n,.string u.t,.slice u.LA u.ln u.lc,.slice u.DA u.dn u.dc] 59)) wr.heap.size 59 #[.string f.s,.int .i64 u.k,.int .i64 u.n,.string u.t,.slice u.LA u.ln u.lc,.slice u.DA u.dn u.dc]:=Blk.new_at rfl
      have KR:=HR.out.alloc (.cells #[.string f.s,.int .i64 u.k,.int .i64 u.n,.string u.t,.slice u.LA u.ln u.lc,.slice u.DA u.dn u.dc] 59)
      have hga:wc.heap.size<wr.heap.size:=J2.out.row.lt
      clear HR u0 u1 u2 u3 u4 r3 s0
      generalize wr.alloc (.cells #[.string f.s,.int .i64 u.k,.int .i64 u.n,.string u.t,.slice u.LA u.ln u.lc,.slice u.DA u.dn u.dc] 59)=wa at*
      generalize wr.heap.size=ga at*
      have hne:wc.heap.size≠ga:=by omega
      have hne2:wc.heap.size≠w.heap.size+2:=by omega
      have f0:=KB.cell 0
      have f1:=KB.cell 1
      have f2:=KB.cell 2
      have f3:=KB.cell 3
      have f4:=KB.cell 4
      have f5:=KB.cell 5
      have r3:=K.b2.cell 4
      simp at r3 f0 f1 f2 f3 f4 f5
      have LB:=qD KB
      have LK:=qD K
      have LR:=qD KR
      clear KB K KR
      have hi0:(0:Int)≤(i:Int):=by omega
      have hi1:(i:Int)<(dn:Int):=by omega
      go_region_held3 (fun w'=>w'.cell? ⟨w.heap.size+2,4,none⟩=some (.slice (some ⟨wc.heap.size,0,none⟩) dn dn)∧w'.cell? ⟨ga,0,none⟩=some (.string f.s)∧w'.cell? ⟨ga,1,none⟩=some (.int .i64 u.k)∧w'.cell? ⟨ga,2,none⟩=some (.int .i64 u.n)∧w'.cell? ⟨ga,3,none⟩=some (.string u.t)∧w'.cell? ⟨ga,4,none⟩=some (.slice u.LA u.ln u.lc)∧w'.cell? ⟨ga,5,none⟩=some (.slice u.DA u.dn u.dc))
       (first|go_keep|exact⟨s0,s6,s1,s2,s3,s4,s5⟩|((try dsimp only);repeat' apply And.intro;all_goals go_keep))
       ((go_at_call 134;refine(HC.out u _ (LR.out.drewN 1)).mono ?_;rintro e w1 ⟨c',mid,rfl,hcl,hb1⟩;replace hb1:Below wa.heap.size wa w1:=hb1.undrewN;replace hcl:Cl wa.heap.size mid w1 c' f.v:=hcl;have s0:=(hb1.cell (p:=⟨w.heap.size+2,4,none⟩) LK.out.b2.lt).trans r3;have s6:=(hb1.cell (p:=⟨ga,0,none⟩) LB.out.lt).trans f0;have s1:=(hb1.cell (p:=⟨ga,1,none⟩) LB.out.lt).trans f1;have s2:=(hb1.cell (p:=⟨ga,2,none⟩) LB.out.lt).trans f2;have s3:=(hb1.cell (p:=⟨ga,3,none⟩) LB.out.lt).trans f3;have s4:=(hb1.cell (p:=⟨ga,4,none⟩) LB.out.lt).trans f4;have s5:=(hb1.cell (p:=⟨ga,5,none⟩) LB.out.lt).trans f5;have row:Row w1 wc.heap.size 59 (dn*6):=(LK.out.step hb1).row;have z:=row.frozen;obtain⟨o0,p0⟩:=row.cell (i:=i*6) (by omega);obtain⟨o1,p1⟩:=row.cell (i:=i*6+1) (by omega);obtain⟨o2,p2⟩:=row.cell (i:=i*6+2) (by omega);obtain⟨o3,p3⟩:=row.cell (i:=i*6+3) (by omega);obtain⟨o4,p4⟩:=row.cell (i:=i*6+4) (by omega);obtain⟨o5,p5⟩:=row.cell (i:=i*6+5) (by omega);have LC:=qD hcl;have LX:=qD (LK.out.step hb1);clear hcl hb1 row))
      clear s0 s1 s2 s3 s4 s5 s6 p0 p1 p2 p3 p4 p5 z f0 f1 f2 f3 f4 f5 r3
      go_wp2_with fail
      go_roundw
      case rel=>exact⟨i+1,by omega,by go_num,LX.out.next hlt HY.out (LC.out.rv.mono fun q hq=>by have:=LK.out.row.lt;omega)⟩
      case measure=>simp[intOf];omega
     ·obtain rfl:i=dn:=by omega
      go_wp2_with fail
      go_meet
      exact⟨_,wc.heap.size,CE.of_cd J2.out HO.out (by have:=HDL.out;omega) J.out.l0 hd0⟩
   ·have hz:dn=0:=by omega
    subst hz
    clear hmd
    have hd:decide (0<0)=false:=by decide
    rw[hd]
    clear hd
    go_wp2_with fail
    go_meet
    exact⟨_,wc.heap.size,CE.of_cst J.out HO.out⟩
  case rest=>
   obtain⟨r,mid,I⟩:=hcut
   have J3:=qD I
   obtain⟨a0,a1,a2,a3,a4⟩:=VAt.of_blk I.b2
   obtain⟨b0,b1,b2,b3,b4⟩:=VAt.of_blk I.b1
   have z:=I.b1.frozen
   clear I e4 hmd
   go_wp2_with fail
   have q:=VAt.of_blk (J3.out.b1.putV r)
   refine bodyPost_ret (results_val rfl _ _ _ rfl _ r q) rfl ?_
   exact CE.done J3.out
theorem findFrom_range(name:ByteArray)(d:List Fld):∀i:Nat,findFrom name d i=-1∨∃j:Nat,findFrom name d i=(i+j:Nat)∧j<d.length:=by
 induction d with
 | nil=>intro i;exact .inl rfl
 | cons f r ih=>
  intro i
  simp only[findFrom]
  split
  ·exact .inr ⟨0,by simp,by simp⟩
  ·rcases ih (i+1) with h|⟨j,h1,h2⟩
   ·exact .inl h
   ·exact .inr ⟨j+1,by rw[h1];congr 1;omega,by simp;omega⟩
theorem findI_range(x:Val)(name:ByteArray):findI x name=-1∨∃j:Nat,findI x name=j∧∃f,x.d[j]?=some f:=by
 unfold findI
 split
 ·rcases findFrom_range name x.d 0 with h|⟨j,h1,h2⟩
  ·exact .inl h
  ·exact .inr ⟨j,by rw[h1];simp,_,List.getElem?_eq_getElem h2⟩
 ·exact .inl rfl
def getV(x:Val)(name:ByteArray):Option Val:=if 0≤findI x name then(x.d[(findI x name).toNat]?).map Fld.v else none
theorem getV_none{x:Val}{name:ByteArray}(h:findI x name=-1):getV x name=none:=by simp[getV,h]
theorem getV_some{x:Val}{name:ByteArray}{j:Nat}{f:Fld}(h:findI x name=j)(hf:x.d[j]?=some f):getV x name=some f.v:=by
 simp[getV,h,hf]
theorem results_val_ok{fn:Func}{p u:Tmp}(h:fn.results=#[.cell p 29,.tmp u])(tmps:Array Value)(g1 off:Nat)(h1:tmps.getD p undef=.pointer (some ⟨g1,off,none⟩))(e:Value)(h2:tmps.getD u undef=e)(W:World)(v:VC)(q:VAt W g1 off v):(results fn tmps).run Tryz.prog W=.ok (.tuple #[v.val,e]) W:=by
 obtain⟨q0,q1,q2,q3,q4⟩:=q
 rw[results_cell_tmp h,h1,h2]
 simp[asAddr,go_sem,q0,q1,q2,q3,q4]
def GetOk(x:Val)(name:ByteArray)(w:World)(e:Ending)(w':World):Prop:=
 ∃(c:VC),e=.returned (.tuple #[c.val,.bool (getV x name).isSome])∧RV (fun b=>w.heap.size≤b) w' c ((getV x name).getD Val.zero)∧Below w.heap.size w w'
theorem get_any(x:Val)(c:VC)(name:ByteArray)(w:World)(h:RW w c x):
 Calls Tryz.prog 90 #[c.val,.string name] w (GetOk x name w):=by
 have H:=qD h
 clear h
 go_enter Tryz.func90,Tryz.ntmps90
 go_wp2_with fail
 refine(find_any x c name _ ((H.out.alloc _).alloc _)).mono ?_
 rintro e w1 ⟨rfl,hb⟩
 have B0:Blk w1 w.heap.size 29 c.arr:=((Blk.new_at rfl).alloc _).step hb
 have B1:Blk w1 (w.heap.size+1) 29 VC.zero.arr:=(Blk.new_at (by simp)).step hb
 have B2:Below w.heap.size w w1:=(((Below.refl _ _).alloc (qL) _).alloc (by simp) _).trans (hb.mono (by simp;omega))
 clear hb
 have J0:=qD B0
 have J1:=qD B1
 have J2:=qD B2
 obtain⟨b0,b1,b2,b3,b4⟩:=VAt.of_blk B1
 have e4:=B0.cell 4
 have z:=B1.frozen
 simp at e4
 clear B0 B1 B2
 rcases findI_range x name with hf|⟨j,hf,f,hj⟩
 ·have HG:=qD (getV_none hf)
  rw[hf]
  clear hf
  go_wp2_with fail
  have q:=VAt.of_blk (J1.out.putV VC.zero)
  refine bodyPost_ret (results_val_ok rfl _ _ _ rfl _ rfl _ VC.zero q) rfl ?_
  refine⟨VC.zero,?_,?_,below_setV J2.out (by omega) 0 VC.zero⟩
  ·rw[HG.out];rfl
  ·rw[HG.out];exact RV.zero
 ·have HG:=qD (getV_some hf hj)
  rw[hf]
  clear hf
  have ho:=H.out.open
  have hjlt:j<c.dn:=by have:=(List.getElem?_eq_some_iff.1 hj).1;have:=ho.dn;omega
  have hdz:c.dn≤140737488355328:=by have:=ho.dsz;unfold reach at this;omega
  obtain⟨b,off,hDA,_,hel⟩:=ho.da (by omega)
  obtain⟨_,_,u,hu,hr⟩:=hel j f hj
  rw[hDA] at e4
  obtain⟨u0,u1,u2,u3,u4⟩:=hu.keep (J2.out.block b hu.lt)
  have HR:=qD (hr.lt.step' J2.out)
  clear ho hel hr hu hDA hj
  go_wp2_with fail
  have hlt:w.heap.size+1<w1.heap.size:=J1.out.lt
  refine(clone_any f.v u _ HR.out).mono ?_
  rintro e w2 ⟨c',mid,rfl,hcl,hb⟩
  have K1:=J1.out.step hb
  have K2:=J2.out.step' hb
  have LC:=qD hcl
  clear b0 b1 b2 b3 b4 z e4 u0 u1 u2 u3 u4 J0 J1 J2 hcl hb HR
  obtain⟨b0,b1,b2,b3,b4⟩:=VAt.of_blk K1
  have z:=K1.frozen
  have L1:=qD K1
  have L2:=qD K2
  clear K1 K2
  go_wp2_with fail
  have q:=VAt.of_blk (L1.out.putV c')
  refine bodyPost_ret (results_val_ok rfl _ _ _ rfl _ rfl _ c' q) rfl ?_
  refine⟨c',?_,?_,below_setV L2.out (by omega) 0 c'⟩
  ·rw[HG.out];rfl
  ·rw[HG.out]
   exact((LC.out.keep (w':=setV w2 (w.heap.size+1) 0 c') fun q hq=>heap_setV (by omega)).rv).mono fun q hq=>by omega
def nullV:Val:=.mk 2 0 ByteArray.empty [] []
def nullC:VC:=⟨2,0,ByteArray.empty,none,0,0,none,0,0⟩
theorem rv_null{F:Nat→Prop}{w:World}:RV F w nullC nullV:=
 RVs.shut ⟨rfl,rfl,rfl,by decide,rfl,qL,by decide,fun h=>absurd h (by decide),rfl,qL,by decide,fun h=>absurd h (by decide)⟩
def keyAt:Val→List ByteArray→Option Val
 | x,[]=>if x.k=6 then none else some x
 | x,s::r=>if x.k=6 then none else match getV x s with
  | none=>some nullV
  | some y=>keyAt y r
theorem keyAt_list{x:Val}(h:x.k=6)(l:List ByteArray):keyAt x l=none:=by cases l<;>rw[keyAt,if_pos h]
theorem keyAt_end{x:Val}(h:x.k≠6):keyAt x []=some x:=by rw[keyAt,if_neg h]
theorem keyAt_none{x:Val}{s:ByteArray}{r:List ByteArray}(h:x.k≠6)(hg:getV x s=none):keyAt x (s::r)=some nullV:=by rw[keyAt,if_neg h,hg]
theorem keyAt_some{x y:Val}{s:ByteArray}{r:List ByteArray}(h:x.k≠6)(hg:getV x s=some y):keyAt x (s::r)=keyAt y r:=by rw[keyAt,if_neg h,hg]
theorem getV_kind{x:Val}(s:ByteArray)(h:x.k≠5):getV x s=none:=by
 refine getV_none ?_
 unfold findI
 rw[if_neg (by simpa using h)]
def AtOk(F:Nat→Prop)(x:Val)(l:List ByteArray)(w:World)(e:Ending)(w':World):Prop:=
 ∃u:VC,e=.returned (.tuple #[u.val,.bool (keyAt x l).isSome])∧(∀y,keyAt x l=some y→RV (fun b=>F b∨w.heap.size≤b) w' u y)∧Below w.heap.size w w'
theorem AtOk.drew{F:Nat→Prop}{x:Val}{l:List ByteArray}{w:World}{e:Ending}{w':World}(h:AtOk F x l w e w'):AtOk F x l w e w'.drew:=by
 obtain⟨u,h1,h2,h3⟩:=h
 exact⟨u,h1,fun y hy=>(h2 y hy).keep fun _ _=>rfl,h3.drew⟩
structure AtI(F:Nat→Prop)(w:World)(u:VC)(y:Val)(wr:World):Prop where
 b1:Blk wr (w.heap.size+1) 29 VC.zero.arr
 b2:Blk wr (w.heap.size+2) 29 nullC.arr
 b3:Blk wr (w.heap.size+3) 29 u.arr
 rv:RV (fun b=>(F b∧b<w.heap.size)∨w.heap.size+4≤b) wr u y
 bel:Below w.heap.size w wr
theorem AtI.step{F:Nat→Prop}{w wr w':World}{u:VC}{y:Val}(h:AtI F w u y wr)(hb:Below wr.heap.size wr w'):AtI F w u y w':=⟨h.b1.step hb,h.b2.step hb,h.b3.step hb,h.rv.step hb,h.bel.step' hb⟩
theorem AtI.start{F:Nat→Prop}{w:World}{c:VC}{x:Val}(h:RV F w c x):AtI F w c x ((((w.alloc (.cells c.arr 29)).alloc (.cells VC.zero.arr 29)).alloc (.cells nullC.arr 29)).alloc (.cells c.arr 29)):=by
 have h1:Below w.heap.size w ((((w.alloc (.cells c.arr 29)).alloc (.cells VC.zero.arr 29)).alloc (.cells nullC.arr 29)).alloc (.cells c.arr 29)):=((((Below.refl _ _).alloc (qL) _).alloc (by simp) _).alloc (by simp;omega) _).alloc (by simp;omega) _
 exact⟨((Blk.new_at (by simp)).alloc _).alloc _,(Blk.new_at (by simp)).alloc _,Blk.new_at (by simp),h.lt.keepG fun b hb hl=>⟨.inl hb,h1.block b hb.2⟩,h1⟩
theorem at_end{F:Nat→Prop}{w wr w':World}{u:VC}{y x:Val}{l:List ByteArray}{e:Ending}(h:AtI F w u y wr)(c':VC)(o:Option Val)(ho:keyAt x l=o)(b:Bool)(hb:b=o.isSome)(he:e=.returned (.tuple #[c'.val,.bool b]))(hw:w'=setV wr (w.heap.size+1) 0 c')(hr:∀z,o=some z→RV (fun b=>F b∨w.heap.size≤b) (setV wr (w.heap.size+1) 0 c') c' z):AtOk F x l w e w':=by
 subst ho
 subst hb
 subst he
 subst hw
 exact⟨c',rfl,hr,below_setV h.bel (by omega) 0 c'⟩
theorem AtI.put{F:Nat→Prop}{w wr:World}{u c':VC}{y z:Val}(h:AtI F w u y wr)(hr:RV (fun b=>w.heap.size+4≤b) wr c' z):AtI F w c' z (setV wr (w.heap.size+3) 0 c'):=
 ⟨h.b1.farV (by omega) 0 c',h.b2.farV (by omega) 0 c',h.b3.putV c',hr.keepG fun b hb _=>⟨.inr hb,heap_setV (by omega)⟩,below_setV h.bel (by omega) 0 c'⟩
theorem AtI.rvput{F:Nat→Prop}{w wr:World}{u:VC}{y:Val}(h:AtI F w u y wr):RV (fun b=>F b∨w.heap.size≤b) (setV wr (w.heap.size+1) 0 u) u y:=
 h.rv.keepG fun b hb _=>⟨hb.elim (fun q=>.inl q.1) (fun q=>.inr (by omega)),heap_setV (hb.elim (fun q=>by have:=q.2;omega) (fun q=>by omega))⟩
theorem at_any{F:Nat→Prop}(x:Val)(c:VC)(A:Option Addr)(n cc:Nat)(l:List ByteArray)(w:World)(h:RV F w c x)(hp:ST w A n cc l):
 Calls Tryz.prog 38 #[c.val,.slice A n cc] w (AtOk F x l w):=by
 have HP:=qD hp
 have HL:Hid (n=l.length):=hp.sr.ln
 have hnz:(n:Int)≤8796093022208:=by have:=hp.sz;unfold reach at this;omega
 have I0:=qD (AtI.start h)
 clear h hp
 go_enter Tryz.func38,Tryz.ntmps38
 go_upto_region 4 with fail
 change Code.wp _ _ _ _ ((((w.alloc (.cells c.arr 29)).alloc (.cells VC.zero.arr 29)).alloc (.cells nullC.arr 29)).alloc (.cells c.arr 29))
 generalize ((((w.alloc (.cells c.arr 29)).alloc (.cells VC.zero.arr 29)).alloc (.cells nullC.arr 29)).alloc (.cells c.arr 29))=wa at*
 go_loopw [9,10,11,16,28] (fun _ _ _ u16 _ wr=>∃(i:Nat) (u:VC) (y:Val),i≤n∧u16=.int .i64 i∧keyAt x l=keyAt y (l.drop i)∧AtI F w u y wr) (fun _ _ _ u16 _ _=>n-(intOf u16).toNat)
 case atStart=>exact⟨0,c,x,Nat.zero_le _,rfl,rfl,I0.out⟩
 case round=>
  obtain⟨i,u,y,hi,rfl,hk,J⟩:=hrel
  have HK:=qD hk
  have J2:=qD J
  clear I0 hk J
  have huk:u.k=y.k:=J2.out.rv.open.k
  have HUK:=qD huk
  clear huk
  have z1:=J2.out.b1.frozen
  have z3:=J2.out.b3.frozen
  obtain⟨a0,a1,a2,a3,a4⟩:=VAt.of_blk J2.out.b1
  obtain⟨n0,n1,n2,n3,n4⟩:=VAt.of_blk J2.out.b2
  obtain⟨q0,q1,q2,q3,q4⟩:=VAt.of_blk J2.out.b3
  simp only[Nat.zero_add] at a0 a1 a2 a3 a4 n0 n1 n2 n3 n4 q0 q1 q2 q3 q4
  by_cases hlt:i<n
  ·obtain⟨b,off,s,hA,hbw,hs,hcell⟩:=HP.out.sr.at1 hlt
   subst hA
   have hcell2:=(J2.out.bel.cell (p:=⟨b,off+i,none⟩) hbw).trans hcell
   have HD:Hid (l.drop i=s::l.drop (i+1)):=drop_of hs
   have i0':(0:Int)≤(i:Int):=by omega
   have i1':(i:Int)<(n:Int):=by omega
   clear hs hcell hbw
   by_cases h6:u.k=6
   ·have HR:Hid (keyAt x l=none):=by rw[Hid,HK.out];exact keyAt_list (by rw[←HUK.out];exact h6) _
    have h6b:(u.k==6)=true:=by simpa using h6
    clear h6
    go_wp2_with fail
    have q:=VAt.of_blk (J2.out.b1.putV VC.zero)
    refine bodyPost_ret (results_val_ok rfl _ _ _ rfl _ rfl _ VC.zero q) rfl ?_
    exact at_end J2.out VC.zero none HR.out false rfl rfl rfl (fun y hy=>by cases hy)
   ·have h6b:(u.k==6)=false:=by simpa using h6
    have h6y:y.k≠6:=by rw[←HUK.out];exact h6
    by_cases h5:u.k=5
    ·have h5b:(u.k != 5)=false:=by simp[h5]
     clear h5 h6
     have HG:=qD (get_any y u s wr (J2.out.rv.mono fun _ _=>trivial))
     go_upto_region 10 with fail
     go_wp2_with fail
     refine HG.out.mono ?_
     rintro e w1 ⟨c',rfl,hr,hb⟩
     have J3:=qD (J2.out.step hb)
     have HR1:=qD hr
     have HSZ:Hid (w.heap.size+4≤wr.heap.size):=J2.out.b3.lt
     have HSZ2:Hid (wr.heap.size≤w1.heap.size):=hb.size
     clear a0 a1 a2 a3 a4 n0 n1 n2 n3 n4 q0 q1 q2 q3 q4 z1 z3 hr hb HG
     cases hg:getV y s with
     | none=>
      rw[hg] at HR1
      have HR:Hid (keyAt x l=some nullV):=by rw[Hid,HK.out,HD.out];exact keyAt_none h6y hg
      clear hg
      go_upto_region 11 with fail
      change Code.wp _ _ _ _ (w1.alloc (.cells c'.arr 29))
      have J4:=qD (J3.out.step ((Below.refl w1.heap.size w1).alloc (qL) (Obj.cells c'.arr 29)))
      generalize w1.alloc (.cells c'.arr 29)=w2 at*
      have z1:=J4.out.b1.frozen
      obtain⟨a0,a1,a2,a3,a4⟩:=VAt.of_blk J4.out.b1
      obtain⟨n0,n1,n2,n3,n4⟩:=VAt.of_blk J4.out.b2
      simp only[Nat.zero_add] at a0 a1 a2 a3 a4 n0 n1 n2 n3 n4
      go_wp2_with fail
      have q:=VAt.of_blk (J4.out.b1.putV nullC)
      refine bodyPost_ret (results_val_ok rfl _ _ _ rfl _ rfl _ nullC q) rfl ?_
      exact at_end J4.out nullC (some nullV) HR.out true rfl rfl rfl (fun y hy=>by cases hy;exact rv_null)
     | some z=>
      rw[hg] at HR1
      have HR:Hid (keyAt x l=keyAt z (l.drop (i+1))):=by rw[Hid,HK.out,HD.out];exact keyAt_some h6y hg
      clear hg
      go_upto_region 11 with fail
      change Code.wp _ _ _ _ (w1.alloc (.cells c'.arr 29))
      have J4:=qD (J3.out.step ((Below.refl w1.heap.size w1).alloc (qL) (Obj.cells c'.arr 29)))
      have JC:Hid (Blk (w1.alloc (.cells c'.arr 29)) w1.heap.size 29 c'.arr):=Blk.new_at rfl
      have HR2:=qD (HR1.out.lt.keepG (G:=fun b=>w.heap.size+4≤b) (w':=w1.alloc (.cells c'.arr 29)) fun b hb hl=>⟨Nat.le_trans HSZ.out hb.1,Below.heap_alloc _ _ _ hl⟩)
      have hgl:w.heap.size+3<w1.heap.size:=by have h1:=HSZ.out;have h2:=HSZ2.out;omega
      generalize w1.alloc (.cells c'.arr 29)=w2 at*
      have z3:=J4.out.b3.frozen
      obtain⟨a0,a1,a2,a3,a4⟩:=VAt.of_blk JC.out
      obtain⟨q0,q1,q2,q3,q4⟩:=VAt.of_blk J4.out.b3
      simp only[Nat.zero_add] at a0 a1 a2 a3 a4 q0 q1 q2 q3 q4
      go_wp2_with fail
      go_roundw
      case rel=>exact⟨i+1,c',z,hlt,by go_num,HR.out,J4.out.put HR2.out⟩
      case measure=>simp[intOf];omega
    ·have h5b:(u.k != 5)=true:=by simp[h5]
     have HR:Hid (keyAt x l=some nullV):=by rw[Hid,HK.out,HD.out];exact keyAt_none h6y (getV_kind s (by rw[←HUK.out];exact h5))
     go_wp2_with fail
     have q:=VAt.of_blk (J2.out.b1.putV nullC)
     refine bodyPost_ret (results_val_ok rfl _ _ _ rfl _ rfl _ nullC q) rfl ?_
     exact at_end J2.out nullC (some nullV) HR.out true rfl rfl rfl (fun y hy=>by cases hy;exact rv_null)
  ·obtain rfl:i=n:=by omega
   have hdr:l.drop i=[]:=List.drop_of_length_le (by have:=HL.out;omega)
   by_cases h6:u.k=6
   ·have HR:Hid (keyAt x l=none):=by rw[Hid,HK.out];exact keyAt_list (by rw[←HUK.out];exact h6) _
    have h6b:(u.k != 6)=false:=by simp[h6]
    clear h6
    go_upto_region 15 with fail
    go_region
    all_goals (go_wp2_with fail)
    all_goals
     have q:=VAt.of_blk (J2.out.b1.putV u).drew
     refine bodyPost_ret (results_val_ok rfl _ _ _ rfl _ rfl _ u q) rfl ?_
     exact(at_end J2.out u none HR.out false rfl rfl rfl (fun y hy=>by cases hy)).drew
   ·have HR:Hid (keyAt x l=some y):=by rw[Hid,HK.out,hdr];exact keyAt_end (by rw[←HUK.out];exact h6)
    have h6b:(u.k != 6)=true:=by simp[h6]
    go_upto_region 15 with fail
    go_region
    all_goals (go_wp2_with fail)
    all_goals
     have q:=VAt.of_blk (J2.out.b1.putV u).drew
     refine bodyPost_ret (results_val_ok rfl _ _ _ rfl _ rfl _ u q) rfl ?_
     exact(at_end J2.out u (some y) HR.out true rfl rfl rfl (fun z hz=>by cases hz;exact J2.out.rvput)).drew
theorem take_at{l rest:List Oper}{i:Nat}{o:Oper}(h:l.drop i=o::rest):l.toArray[i]?=some o:=by
 have:=congrArg List.head? h
 rw[List.head?_drop] at this
 simpa using this
theorem rnull_any(w:World):Calls Tryz.prog 21 #[] w fun e w'=>e=.returned nullC.val∧Below w.heap.size w w':=by
 go_enter Tryz.func21,Tryz.ntmps21
 go_wp2_with fail
 exact bodyPost_ret (results_val rfl _ _ _ rfl _ nullC (VAt.of_blk (Blk.new _ _ _))) rfl ⟨rfl,(Below.refl _ _).alloc (qL) _⟩
end Go.Proofs.YtfkapannahcjiaaGreatDoor
