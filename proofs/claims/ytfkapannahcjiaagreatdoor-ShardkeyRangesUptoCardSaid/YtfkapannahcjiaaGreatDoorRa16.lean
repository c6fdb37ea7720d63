/- Parts of the proof, joined: RgGood, RgKeys, SortPure, IvRec, IvCompare, SortISp, SortRSp. -/
import Derived.Test.YtfkapannahcjiaaGreatDoorRa1
import Derived.Test.YtfkapannahcjiaaGreatDoorRa2
import Derived.Test.YtfkapannahcjiaaGreatDoorRa3
import Derived.Test.YtfkapannahcjiaaGreatDoorRa15
import Derived.Test.YtfkapannahcjiaaGreatDoorRa10
import Derived.IntWalk
set_option maxRecDepth 100000
set_option maxHeartbeats 16000000
set_option linter.unusedSimpArgs false
namespace Go.Proofs.YtfkapannahcjiaaGreatDoor
structure GoodS(S:Cut→Prop):Prop where
 lo:∀a,VC1 a→LoE cmC VC1 S a→NumsV a.1∧(a.2=true→∀b,VO b→cmC a b<0→¬lexI (endL a) (endL b)<0→S b)
 hi:∀a,VC1 a→HiE cmC VC1 S a→NumsV a.1
theorem GoodS.congr{S T:Cut→Prop}(h:GoodS S)(e:∀a,VC1 a→(S a↔T a)):GoodS T:=
 ⟨fun a ha k=>by
  obtain⟨h1,h2⟩:=h.lo a ha (k.congr ha fun b hb=>(e b hb).symm)
  exact⟨h1,fun h3 b hb h4 h5=>(e b hb.1).1 (h2 h3 b hb h4 h5)⟩,fun a ha k=>h.hi a ha (k.congr ha fun b hb=>(e b hb).symm)⟩
theorem GoodS.or{S T:Cut→Prop}(h:GoodS S)(k:GoodS T):GoodS fun a=>S a∨T a:=by
 refine⟨fun a ha m=>?_,fun a ha m=>?_⟩
 ·rcases m.or with m|m
  ·obtain⟨h1,h2⟩:=h.lo a ha m
   exact⟨h1,fun h3 b hb h4 h5=>.inl (h2 h3 b hb h4 h5)⟩
  ·obtain⟨h1,h2⟩:=k.lo a ha m
   exact⟨h1,fun h3 b hb h4 h5=>.inr (h2 h3 b hb h4 h5)⟩
 ·rcases m.or lin_cut with m|m
  ·exact h.hi a ha m
  ·exact k.hi a ha m
theorem GoodS.none:GoodS fun _=>False:=by
 refine⟨fun a _ m=>m.1.elim,fun a _ m=>?_⟩
 obtain⟨_,⟨c,c1,c2⟩,h3⟩:=m
 obtain⟨d,_,_,_,d4⟩:=h3 c c1 c2
 exact d4.elim
theorem GoodS.any:∀{rs:List PSet},(∀r∈rs,GoodS r.1)→GoodS fun a=>∃r∈rs,r.1 a
 | [],_=>GoodS.none.congr fun a _=>⟨fun h=>h.elim,fun⟨_,h,_⟩=>by cases h⟩
 | r::rs,h=>by
  have h1:=GoodS.any (rs:=rs) fun x hx=>h x (List.mem_cons_of_mem _ hx)
  refine((h r List.mem_cons_self).or h1).congr fun a _=>?_
  constructor
  ·rintro(k|⟨x,hx,k⟩)
   ·exact⟨r,List.mem_cons_self,k⟩
   ·exact⟨x,List.mem_cons_of_mem _ hx,k⟩
  ·rintro⟨x,hx,k⟩
   rcases List.mem_cons.1 hx with rfl|hx
   ·exact .inl k
   ·exact .inr ⟨x,hx,k⟩
theorem GoodS.spans{l:List Iv}(h:∀x∈l,x.ne=true→NumsV x.lo∧NumsV x.hi∧(x.li=false→lexI (endL x.sp.1) (endL x.sp.2)<0)):GoodS fun a=>inS cmC a (spansL l):=by
 have hv:∀s∈spansL l,VC1 s.1∧VC1 s.2:=fun s hs=>(spansL_ne s hs).2
 refine⟨fun a ha m=>?_,fun a ha m=>?_⟩
 ·obtain⟨s,hs,rfl⟩:=m.mem lin_cut hv ha
  obtain⟨x,hx,rfl⟩:=List.mem_map.1 hs
  obtain⟨hx1,hx2⟩:=List.mem_filter.1 hx
  obtain⟨n1,n2,n3⟩:=h x hx1 hx2
  have ne:=ne_sp hx2
  refine⟨n1,fun h2 b hb h4 h5=>⟨x.sp,hs,by omega,?_⟩⟩
  have h6:x.li=false:=by simpa[Iv.sp] using h2
  have h7:=n3 h6
  have an:=lin_cut.anti b x.sp.2
  by_cases e0:cmC b x.sp.2=0
  ·have:=lin_cut.eq b x.sp.2 hb.1 ne.2.2 e0
   rw[this] at h5
   exact absurd h7 h5
  ·by_cases e1:cmC b x.sp.2<0
   ·exact e1
   ·have k:=(end_le (a:=x.sp.2) (b:=b) ⟨ne.2.2,n2⟩ hb (by omega)).1
    exact absurd (lexI_lt_le h7 k) h5
 ·obtain⟨s,hs,rfl⟩:=m.mem lin_cut hv ha
  obtain⟨x,hx,rfl⟩:=List.mem_map.1 hs
  obtain⟨hx1,hx2⟩:=List.mem_filter.1 hx
  exact(h x hx1 hx2).2.1
theorem nums_leaf{k n:Int}{t:ByteArray}(h:In64 n):NumsV (.mk k n t [] []):=(NumsV_iff _).2 ⟨h,by simp[Val.l],by simp[Val.d]⟩
theorem nums_least(k:Int):NumsV (leastV k):=by
 unfold leastV vKd
 split
 ·exact nums_leaf (by unfold In64;decide)
 ·split<;>exact nums_leaf (by unfold In64;decide)
theorem nums_range(k:Int):NumsV (rangeI k).lo∧NumsV (rangeI k).hi∧(rangeI k).li=true:=by
 unfold rangeI
 split
 ·exact⟨nums_least k,nums_leaf (by unfold In64;decide),rfl⟩
 ·split
  ·exact⟨nums_least k,nums_leaf (by unfold In64;decide),rfl⟩
  ·split
   ·exact⟨nums_least k,nums_least _,rfl⟩
   ·exact⟨nums_least k,nums_least k,rfl⟩
theorem enc_least{k:Int}(h:k=4∨k=5∨k=7∨k=8):∃y r,encV (leastV (k+1))=(k+1)::y::r:=by
 rcases h with rfl|rfl|rfl|rfl
 ·exact⟨_,_,by rw[encV_eq];rfl⟩
 ·exact⟨_,_,by rw[encV_eq];rfl⟩
 ·exact⟨_,_,by rw[encV_eq];rfl⟩
 ·exact⟨_,_,by rw[encV_eq];rfl⟩
theorem gt_end{x:Val}(hv:validV x=true)(hn:NumsV x)(h6:x.k≠6)(hlt:cmC (x,true) ((rangeI x.k).hi,(rangeI x.k).hin)<0)(hh:validV (rangeI x.k).hi=true):
 lexI (endL (x,true)) (endL ((rangeI x.k).hi,(rangeI x.k).hin))<0:=by
 have hb:VO ((rangeI x.k).hi,(rangeI x.k).hin):=⟨hh,(nums_range x.k).2.1⟩
 have ha:VO (x,true):=⟨hv,hn⟩
 have hk:=kind_range hv
 by_cases hin:(rangeI x.k).hin=true
 ·exact(end_le ha hb hlt).2 fun h=>by have:=h.2;simp only at this;rw[hin] at this;simp at this
 ·have k4:x.k=4∨x.k=5∨x.k=7∨x.k=8:=by
   unfold rangeI at hin
   split at hin
   ·simp at hin
   ·split at hin
    ·simp at hin
    ·split at hin
     ·omega
     ·simp at hin
  have e:rangeI x.k=⟨leastV x.k,leastV (x.k+1),true,false⟩:=by
   unfold rangeI
   rw[if_neg (by omega),if_neg (by omega),if_pos (by omega)]
  rw[e]
  obtain⟨y,r,hy⟩:=enc_least k4
  obtain⟨t,ht⟩:=ha.after
  obtain⟨T,hT⟩:∃T,encV x=x.k::T:=⟨_,encV_eq _⟩
  unfold endL
  simp only[if_true,Bool.false_eq_true,if_false]
  rw[hy]
  simp only at ht
  rw[ht,Option.getD_some]
  rw[hT] at ht
  unfold afterL at ht
  cases hr:afterL T with
  | some u=>
   rw[hr] at ht
   simp only[Option.some.injEq] at ht
   subst ht
   rw[lexI_lt (by omega)]
   omega
  | none=>
   rw[hr] at ht
   simp only at ht
   rw[if_neg (by omega)] at ht
   simp only[Option.some.injEq] at ht
   subst ht
   rw[lexI_cons]
   simp[lexI]
theorem allS_good:GoodS allS:=GoodS.spans (l:=[allIv]) fun x hx _=>by
 obtain rfl:x=allIv:=by simpa using hx
 exact⟨nums_leaf (by unfold In64;decide),nums_leaf (by unfold In64;decide),fun h=>by simp[allIv] at h⟩
theorem pt_good{v:Val}(h:NumsV v):NumsV (ptIv v).lo∧NumsV (ptIv v).hi∧((ptIv v).li=false→lexI (endL (ptIv v).sp.1) (endL (ptIv v).sp.2)<0):=⟨h,h,fun h=>by simp[ptIv] at h⟩
theorem leaf_good{op n:Int}{arg:Val}{args:List Val}{r:List Iv×Bool}(h:leafI op arg args n=some r)(hn:NumsV arg)(hs:∀x∈args,NumsV x):GoodS fun a=>inS cmC a (spansL r.1):=by
 unfold leafI at h
 split at h
 ·split at h
  ·simp at h
  ·obtain rfl:=Option.some.inj h
   exact GoodS.spans fun x hx _=>by
    obtain rfl:x=ptIv arg:=by simpa using hx
    exact pt_good hn
 ·split at h
  ·rename_i hop
   split at h
   ·simp at h
   ·rename_i h6
    obtain rfl:=Option.some.inj h
    refine GoodS.spans fun x hx hne=>?_
    obtain rfl:x=limI op arg:=by simpa using hx
    have hr:=nums_range arg.k
    unfold limI at hne ⊢
    by_cases h45:op=4∨op=5
    ·rw[if_pos h45] at hne ⊢
     refine⟨hn,hr.2.1,fun h5=>?_⟩
     have hp:=ne_sp hne
     simp only[Iv.sp] at hp ⊢
     simp only at h5
     rw[h5] at hp ⊢
     exact gt_end hp.2.1 hn h6 hp.1 hp.2.2
    ·rw[if_neg h45]
     exact⟨hr.1,hn,fun h5=>by simp only at h5;rw[hr.2.2] at h5;simp at h5⟩
  ·split at h
   ·split at h
    ·simp at h
    ·obtain rfl:=Option.some.inj h
     exact GoodS.spans fun x hx _=>by
      obtain⟨v,hv,rfl⟩:=List.mem_map.1 hx
      exact pt_good (hs v hv)
   ·split at h
    ·obtain rfl:=Option.some.inj h
     refine GoodS.spans fun x hx _=>?_
     obtain rfl:x=(preI arg).1:=by simpa using hx
     unfold preI
     split
     ·split
      ·exact⟨hn,nums_leaf (by unfold In64;decide),fun h=>by simp at h⟩
      ·exact⟨hn,nums_leaf (by unfold In64;decide),fun h=>by simp at h⟩
     ·exact⟨hn,nums_leaf (by unfold In64;decide),fun h=>by simp at h⟩
    ·split at h
     ·split at h
      ·simp at h
      ·obtain rfl:=Option.some.inj h
       refine GoodS.spans fun x hx _=>?_
       obtain rfl:x=rangeI n:=by simpa using hx
       have hr:=nums_range n
       exact⟨hr.1,hr.2.1,fun h=>by rw[hr.2.2] at h;simp at h⟩
     ·simp at h
theorem firstS_good:∀{rs:List PSet},(∀r∈rs,GoodS r.1)→GoodS (firstS rs).1
 | [],_=>allS_good
 | r::rs,h=>by
  unfold firstS
  split
  ·exact firstS_good fun x hx=>h x (by simp[hx])
  ·exact h r (by simp)
theorem ofS_good(l:List ByteArray):∀{p:PrT},NumsP p→GoodS (ofS l p).1:=by
 intro p
 induction p using PrT.ind with
 | h p ih=>
  intro hn
  obtain⟨n1,n2,n3⟩:=(NumsP_iff p).1 hn
  have hk:∀r∈p.kids.map (ofS l),GoodS r.1:=by
   intro r hr
   obtain⟨k,hk,rfl⟩:=List.mem_map.1 hr
   exact ih k hk (n3 k hk)
  by_cases h20:p.op=20
  ·rw[ofS_and h20]
   unfold andS
   split
   ·rename_i r e
    exact hk r (by rw[e];simp)
   ·exact firstS_good hk
  ·by_cases h21:p.op=21
   ·rw[ofS_or h21]
    unfold orS
    split
    ·exact allS_good
    ·exact GoodS.any hk
   ·by_cases hp:p.path.xs=l
    ·rw[ofS_leaf h20 h21 hp]
     unfold leafS
     split
     ·rename_i r e
      exact leaf_good e n1 fun x hx=>by
       obtain⟨y,hy,rfl⟩:=List.mem_map.1 hx
       exact n2 y hy
     ·exact allS_good
    ·rw[ofS_else h20 h21 hp]
     exact allS_good
theorem GoodS.nf{S:Cut→Prop}(h:GoodS S){m:List (Cut×Cut)}(hm:IsNF S m){s:Cut×Cut}(hs:s∈m):VO s.1∧VO s.2∧lexI (endL s.1) (endL s.2)<0:=by
 have ne:=hm.1.ne s hs
 have l1:LoE cmC VC1 S s.1:=(hm.1.lo lin_cut hs).congr ne.2.1 fun a _=>hm.2 a
 have l2:HiE cmC VC1 S s.2:=(hm.1.hi lin_cut hs).congr ne.2.2 fun a _=>hm.2 a
 obtain⟨g1,g2⟩:=h.lo _ ne.2.1 l1
 have v1:VO s.1:=⟨ne.2.1,g1⟩
 have v2:VO s.2:=⟨ne.2.2,h.hi _ ne.2.2 l2⟩
 refine⟨v1,v2,?_⟩
 by_cases hc:lexI (endL s.1) (endL s.2)<0
 ·exact hc
 ·by_cases h2:s.1.2=true
  ·exact absurd (g2 h2 _ v2 ne.1 hc) l2.1
  ·exact(end_le v1 v2 ne.1).2 fun k=>h2 k.1
abbrev ltB(a b:ByteArray):Prop:=cmpB a b<0
theorem sord_B:SOrd ltB:=by
 refine⟨fun a=>?_,fun {a b c} h k=>?_,fun a b=>?_⟩
 ·show ¬cmpB a a<0
  rw[cmpB_zero.2 rfl];omega
 ·have:=cmpB_tr a b c
  unfold TR at this
  show cmpB a c<0
  have h':cmpB a b<0:=h
  have k':cmpB b c<0:=k
  omega
 ·show cmpB a b<0∨a=b∨cmpB b a<0
  have:=cmpB_anti a b
  by_cases h:cmpB a b=0
  ·exact .inr (.inl (cmpB_zero.1 h))
  ·omega
theorem strOf_nil:strOfNums []=ByteArray.empty:=rfl
theorem ltB_empty{l:List Int}(hl:Rng l)(h:l≠[]):ltB ByteArray.empty (strOfNums l):=by
 show cmpB _ _<0
 rw[←strOf_nil,cmp_str Rng.nil hl]
 cases l with
 | nil=>exact absurd rfl h
 | cons a r=>simp[lexI]
theorem afterL_ne:∀{l t:List Int},afterL l=some t→t≠[]
 | [],t,h=>by simp[afterL] at h
 | x::r,t,h=>by
  unfold afterL at h
  split at h
  ·simp at h;subst h;simp
  ·split at h
   ·simp at h
   ·simp at h;subst h;simp
theorem VO.ne{a:Cut}(h:VO a):endL a≠[]:=by
 unfold endL
 obtain⟨t,ht⟩:=h.after
 split
 ·rw[ht];exact afterL_ne ht
 ·rw[encV_eq];simp
open Classical in
noncomputable def keyLo(a:Cut):ByteArray:=if a=(vMin,false) then ByteArray.empty else strOfNums (endL a)
open Classical in
noncomputable def keyHi(a:Cut):ByteArray:=if a=(vMax,true) then ByteArray.empty else strOfNums (endL a)
noncomputable def keyP(s:Cut×Cut):ByteArray×ByteArray:=(keyLo s.1,keyHi s.2)
theorem keyLo_lt{a b:Cut}(hb:VO b)(h:a=(vMin,false)∨(VO a∧lexI (endL a) (endL b)<0)):ltB (keyLo a) (strOfNums (endL b)):=by
 unfold keyLo
 by_cases e:a=(vMin,false)
 ·rw[if_pos e];exact ltB_empty hb.erng hb.ne
 ·rw[if_neg e]
  obtain⟨h1,h2⟩:=h.resolve_left e
  show cmpB _ _<0
  rw[cmp_str h1.erng hb.erng]
  exact h2
theorem after_lo{a b:Cut}(ha:VC1 a)(h:cmC a b<0):b≠(vMin,false):=by
 rintro rfl
 have h1:=min_le ha
 have:=lin_cut.anti a (vMin,false)
 omega
section
variable {S:Cut→Prop} {m:List (Cut×Cut)}
theorem keys_asc(g:GoodS S)(h:IsNF S m):AscR ltB (m.map keyP):=by
 unfold AscR
 rw[List.pairwise_map]
 refine List.Pairwise.imp_of_mem (fun {s t} hs ht hst=>?_) h.1.ord
 obtain⟨s1,s2,s3⟩:=g.nf h hs
 obtain⟨t1,t2,t3⟩:=g.nf h ht
 have e:keyLo t.1=strOfNums (endL t.1):=if_neg (after_lo s2.1 hst)
 show ltB (keyLo s.1) (keyLo t.1)
 rw[e]
 exact keyLo_lt t1 (.inr ⟨s1,lexI_lt_le s3 (end_le s2 t1 hst).1⟩)
end
def hashL(n:Int):List Int:=3::nums n
def keyH(n:Int):ByteArray×ByteArray:=(strOfNums (hashL n),strOfNums ((afterL (hashL n)).getD []))
theorem hash_rng(n:Int):Rng (hashL n):=Rng.cons (by omega) (rng_nums n)
theorem hash_after(n:Int):∃t,afterL (hashL n)=some t:=afterL_some (x:=3) (by simp[hashL]) (by omega)
theorem hash_same{n m:Int}(h:(keyH n).1=(keyH m).1):keyH n=keyH m:=by
 have h1:cmpB (strOfNums (hashL n)) (strOfNums (hashL m))=0:=cmpB_zero.2 h
 rw[cmp_str (hash_rng n) (hash_rng m)] at h1
 have:=lexI_eq h1
 unfold keyH
 rw[this]
structure Ordered{α:Type}(cm:α→α→Int):Prop where
 anti:∀x y,cm y x=-cm x y
 tr:∀x y z,TR (cm x y) (cm y z) (cm x z)
section
variable {α:Type} (cm:α→α→Int)
def RT(x y:α×Nat):Prop:=cm x.1 y.1<0∨cm x.1 y.1=0∧x.2<y.2
variable {cm}
theorem RT.trans(H:Ordered cm){x y z:α×Nat}(h1:RT cm x y)(h2:RT cm y z):RT cm x z:=by
 unfold RT at*
 have:=H.tr x.1 y.1 z.1 (by omega) (by omega)
 omega
def Tagged(l:List (α×Nat)):Prop:=l.Pairwise fun x y=>x.2<y.2
structure Sorted(cm:α→α→Int)(l S:List (α×Nat)):Prop where
 perm:S.Perm l
 ord:S.Pairwise (RT cm)
theorem Sorted.nil:Sorted cm ([]:List (α×Nat)) []:=⟨.nil,.nil⟩
theorem Sorted.one(x:α×Nat):Sorted cm [x] [x]:=⟨.refl _,by simp⟩
theorem Sorted.insert(H:Ordered cm){P S1 S2:List (α×Nat)}{x:α×Nat}(h:Sorted cm P (S1++S2))(ht:∀y∈P,y.2<x.2)(h2:∀y∈S2,cm x.1 y.1<0)(h1:∀y,S1.getLast?=some y→¬cm x.1 y.1<0):Sorted cm (P++[x]) (S1++x::S2):=by
 refine⟨?_,?_⟩
 ·have e1:(S1++x::S2).Perm (x::(S1++S2)):=List.perm_middle
  have e2:(x::(S1++S2)).Perm (x::P):=h.perm.cons x
  have e3:(x::P).Perm (P++[x]):=(List.perm_append_singleton x P).symm
  exact e1.trans (e2.trans e3)
 ·have ho:=h.ord
  rw[List.pairwise_append] at ho ⊢
  refine⟨ho.1,?_,?_⟩
  ·rw[List.pairwise_cons]
   exact⟨fun y hy=>.inl (h2 y hy),ho.2.1⟩
  ·intro y hy z hz
   rcases List.mem_cons.1 hz with rfl|hz
   ·have hyP:y∈P:=h.perm.subset (by simp[hy])
    rcases List.eq_nil_or_concat S1 with rfl|⟨S,q,rfl⟩
    ·simp at hy
    ·have hq:¬cm z.1 q.1<0:=h1 q (by simp)
     have hqP:q∈P:=h.perm.subset (by simp)
     have hqz:RT cm q z:=by
      unfold RT
      have:=H.anti z.1 q.1
      have:=ht q hqP
      omega
     simp only[List.concat_eq_append,List.mem_append,List.mem_singleton] at hy
     rcases hy with hy|rfl
     ·have:RT cm y q:=by
       have h3:=ho.1
       simp only[List.concat_eq_append] at h3
       rw[List.pairwise_append] at h3
       exact h3.2.2 y hy q (by simp)
      exact RT.trans H this hqz
     ·exact hqz
   ·exact ho.2.2 y hy z hz
def tagFrom:Nat→List α→List (α×Nat)
 | _,[]=>[]
 | n,x::r=>(x,n)::tagFrom (n+1) r
theorem tagFrom_map(l:List α):∀n,(tagFrom n l).map Prod.fst=l:=by
 induction l with
 | nil=>intro n;rfl
 | cons x r ih=>intro n;simp[tagFrom,ih]
theorem tagFrom_ge(l:List α):∀n,∀y∈tagFrom n l,n≤y.2:=by
 induction l with
 | nil=>intro n y hy;simp[tagFrom] at hy
 | cons x r ih=>
  intro n y hy
  simp only[tagFrom,List.mem_cons] at hy
  rcases hy with rfl|hy
  ·exact qL
  ·have:=ih (n+1) y hy;omega
theorem tagFrom_tagged(l:List α):∀n,Tagged (tagFrom n l):=by
 induction l with
 | nil=>intro n;simp[tagFrom,Tagged]
 | cons x r ih=>
  intro n
  simp only[tagFrom,Tagged,List.pairwise_cons]
  exact⟨fun y hy=>by have:=tagFrom_ge r (n+1) y hy;show n<y.2;omega,ih (n+1)⟩
theorem tagFrom_length(l:List α):∀n,(tagFrom n l).length=l.length:=by
 induction l with
 | nil=>intro n;rfl
 | cons x r ih=>intro n;simp[tagFrom,ih]
end
theorem flat_set{α:Type}{rec:α→List Value}{s:Nat}(hs:∀a,(rec a).length=s):∀(l:List α) (j:Nat) (a:α),j<l.length→flat rec (l.set j a)=setList (flat rec l) (j*s) (rec a):=by
 intro l
 induction l with
 | nil=>intro j a h;simp at h
 | cons x r ih=>
  intro j a h
  have e:∀(y:α) (t:List α),flat rec (y::t)=rec y++flat rec t:=fun _ _=>rfl
  have hl:=flat_length hs (x::r)
  have hlr:=flat_length hs r
  simp only[List.length_cons] at hl h
  have hm:(j+1)*s≤(r.length+1)*s:=Nat.mul_le_mul_right s (by omega)
  rw[Nat.add_mul] at hm
  rw[setList_eq _ _ _ (by rw[hs,hl];omega),hs]
  cases j with
  | zero=>
   rw[List.set_cons_zero,e,e]
   simp[hs]
  | succ j=>
   have hm2:(j+1)*s≤r.length*s:=Nat.mul_le_mul_right s (by omega)
   rw[Nat.add_mul] at hm2
   rw[List.set_cons_succ,e,e,ih j a (by omega),setList_eq _ _ _ (by rw[hs,hlr];omega),hs,show(j+1)*s=s+j*s by rw[Nat.add_mul];omega]
   have e1:(rec x++flat rec r).take (s+j*s)=rec x++(flat rec r).take (j*s):=by
    have:=List.take_length_add_append (l₁:=rec x) (l₂:=flat rec r) (j*s)
    rwa [hs] at this
   have e2:(rec x++flat rec r).drop (s+j*s+s)=(flat rec r).drop (j*s+s):=by
    have:=List.drop_length_add_append (l₁:=rec x) (l₂:=flat rec r) (j*s+s)
    rw[hs] at this
    rw[show s+j*s+s=s+(j*s+s) by omega]
    exact this
   rw[e1,e2]
   simp only[List.append_assoc]
open Go.RowKit
abbrev PC:=PV×Bool
abbrev PS:=PC×PC
abbrev PI:=(PV×PV)×(Bool×Bool)
def recK(p:PC):List Value:=recV p.1++[.bool p.2]
def recS(p:PS):List Value:=recK p.1++recK p.2
def recI(p:PI):List Value:=recV p.1.1++recV p.1.2++[.bool p.2.1,.bool p.2.2]
theorem recK_length(p:PC):(recK p).length=6:=rfl
theorem recS_length(p:PS):(recS p).length=12:=rfl
theorem recI_length(p:PI):(recI p).length=12:=rfl
theorem recS_one(p:PS):∀u∈recS p,u.oneCell'=true:=by simp[recS,recK,recV,VC.list,Value.oneCell']
theorem recI_one(p:PI):∀u∈recI p,u.oneCell'=true:=by simp[recI,recV,VC.list,Value.oneCell']
def cutP(p:PC):Cut:=(p.1.2,p.2)
def spP(p:PS):Cut×Cut:=(cutP p.1,cutP p.2)
def ivP(p:PI):Iv:=⟨p.1.1.2,p.1.2.2,p.2.1,p.2.2⟩
def spanP(p:PI):PS:=((p.1.1,!p.2.1),(p.1.2,p.2.2))
abbrev aggK(p:PC):Value:=.agg #[.int .i64 p.1.1.k,.int .i64 p.1.1.n,.string p.1.1.t,.slice p.1.1.LA p.1.1.ln p.1.1.lc,.slice p.1.1.DA p.1.1.dn p.1.1.dc,.bool p.2]
abbrev aggS(p:PS):Value:=.agg #[.int .i64 p.1.1.1.k,.int .i64 p.1.1.1.n,.string p.1.1.1.t,.slice p.1.1.1.LA p.1.1.1.ln p.1.1.1.lc,.slice p.1.1.1.DA p.1.1.1.dn p.1.1.1.dc,.bool p.1.2,.int .i64 p.2.1.1.k,.int .i64 p.2.1.1.n,.string p.2.1.1.t,.slice p.2.1.1.LA p.2.1.1.ln p.2.1.1.lc,.slice p.2.1.1.DA p.2.1.1.dn p.2.1.1.dc,.bool p.2.2]
abbrev aggI(p:PI):Value:=.agg #[.int .i64 p.1.1.1.k,.int .i64 p.1.1.1.n,.string p.1.1.1.t,.slice p.1.1.1.LA p.1.1.1.ln p.1.1.1.lc,.slice p.1.1.1.DA p.1.1.1.dn p.1.1.1.dc,.int .i64 p.1.2.1.k,.int .i64 p.1.2.1.n,.string p.1.2.1.t,.slice p.1.2.1.LA p.1.2.1.ln p.1.2.1.lc,.slice p.1.2.1.DA p.1.2.1.dn p.1.2.1.dc,.bool p.2.1,.bool p.2.2]
abbrev arrC(p:PC):Array Value:=#[.int .i64 p.1.1.k,.int .i64 p.1.1.n,.string p.1.1.t,.slice p.1.1.LA p.1.1.ln p.1.1.lc,.slice p.1.1.DA p.1.1.dn p.1.1.dc,.bool p.2]
abbrev arrS(p:PS):Array Value:=#[.int .i64 p.1.1.1.k,.int .i64 p.1.1.1.n,.string p.1.1.1.t,.slice p.1.1.1.LA p.1.1.1.ln p.1.1.1.lc,.slice p.1.1.1.DA p.1.1.1.dn p.1.1.1.dc,.bool p.1.2,.int .i64 p.2.1.1.k,.int .i64 p.2.1.1.n,.string p.2.1.1.t,.slice p.2.1.1.LA p.2.1.1.ln p.2.1.1.lc,.slice p.2.1.1.DA p.2.1.1.dn p.2.1.1.dc,.bool p.2.2]
abbrev arrI(p:PI):Array Value:=#[.int .i64 p.1.1.1.k,.int .i64 p.1.1.1.n,.string p.1.1.1.t,.slice p.1.1.1.LA p.1.1.1.ln p.1.1.1.lc,.slice p.1.1.1.DA p.1.1.1.dn p.1.1.1.dc,.int .i64 p.1.2.1.k,.int .i64 p.1.2.1.n,.string p.1.2.1.t,.slice p.1.2.1.LA p.1.2.1.ln p.1.2.1.lc,.slice p.1.2.1.DA p.1.2.1.dn p.1.2.1.dc,.bool p.2.1,.bool p.2.2]
def CAt(w:World)(b off:Nat)(p:PC):Prop:=VAt w b off p.1.1∧w.cell? ⟨b,off+5,none⟩=some (.bool p.2)
def SAt(w:World)(b off:Nat)(p:PS):Prop:=CAt w b off p.1∧CAt w b (off+6) p.2
def IAt(w:World)(b off:Nat)(p:PI):Prop:=VAt w b off p.1.1.1∧VAt w b (off+5) p.1.2.1∧w.cell? ⟨b,off+10,none⟩=some (.bool p.2.1)∧w.cell? ⟨b,off+11,none⟩=some (.bool p.2.2)
section
variable {w w':World} {b off:Nat}
theorem cat_of{p:PC}(h:∀(j:Nat) (v:Value),(recK p)[j]?=some v→w.cell? ⟨b,off+j,none⟩=some v):CAt w b off p:=
 ⟨⟨h 0 _ rfl,h 1 _ rfl,h 2 _ rfl,h 3 _ rfl,h 4 _ rfl⟩,h 5 _ rfl⟩
theorem sat_of{p:PS}(h:∀(j:Nat) (v:Value),(recS p)[j]?=some v→w.cell? ⟨b,off+j,none⟩=some v):SAt w b off p:=
 ⟨⟨⟨h 0 _ rfl,h 1 _ rfl,h 2 _ rfl,h 3 _ rfl,h 4 _ rfl⟩,h 5 _ rfl⟩,⟨⟨h 6 _ rfl,h 7 _ rfl,h 8 _ rfl,h 9 _ rfl,h 10 _ rfl⟩,h 11 _ rfl⟩⟩
theorem iat_of{p:PI}(h:∀(j:Nat) (v:Value),(recI p)[j]?=some v→w.cell? ⟨b,off+j,none⟩=some v):IAt w b off p:=
 ⟨⟨h 0 _ rfl,h 1 _ rfl,h 2 _ rfl,h 3 _ rfl,h 4 _ rfl⟩,⟨h 5 _ rfl,h 6 _ rfl,h 7 _ rfl,h 8 _ rfl,h 9 _ rfl⟩,h 10 _ rfl,h 11 _ rfl⟩
theorem CAt.of_blk{t:TypeId}{p:PC}(h:Blk w b t (arrC p)):CAt w b 0 p:=cat_of fun j v hj=>by rw[Nat.zero_add,h.cell,←Array.getElem?_toList];exact hj
theorem SAt.of_blk{t:TypeId}{p:PS}(h:Blk w b t (arrS p)):SAt w b 0 p:=sat_of fun j v hj=>by rw[Nat.zero_add,h.cell,←Array.getElem?_toList];exact hj
theorem IAt.of_blk{t:TypeId}{p:PI}(h:Blk w b t (arrI p)):IAt w b 0 p:=iat_of fun j v hj=>by rw[Nat.zero_add,h.cell,←Array.getElem?_toList];exact hj
theorem CAt.keep{p:PC}(h:CAt w b off p)(hb:w'.heap[b]?=w.heap[b]?):CAt w' b off p:=⟨h.1.keep hb,(World.cell?_of_block (w:=w) (a:=⟨b,off+5,none⟩) hb).trans h.2⟩
theorem SAt.keep{p:PS}(h:SAt w b off p)(hb:w'.heap[b]?=w.heap[b]?):SAt w' b off p:=⟨h.1.keep hb,h.2.keep hb⟩
theorem IAt.keep{p:PI}(h:IAt w b off p)(hb:w'.heap[b]?=w.heap[b]?):IAt w' b off p:=
 ⟨h.1.keep hb,h.2.1.keep hb,(World.cell?_of_block (w:=w) (a:=⟨b,off+10,none⟩) hb).trans h.2.2.1,(World.cell?_of_block (w:=w) (a:=⟨b,off+11,none⟩) hb).trans h.2.2.2⟩
end
def okC(w:World)(p:PC):Prop:=RW w p.1.1 p.1.2
def okS(w:World)(p:PS):Prop:=okC w p.1∧okC w p.2
def okI(w:World)(p:PI):Prop:=RW w p.1.1.1 p.1.1.2∧RW w p.1.2.1 p.1.2.2
section
variable {w w':World}
theorem okC.step{p:PC}(h:okC w p)(hb:Below w.heap.size w w'):okC w' p:=RV.step h hb
theorem okS.step{p:PS}(h:okS w p)(hb:Below w.heap.size w w'):okS w' p:=⟨h.1.step hb,h.2.step hb⟩
theorem okI.step{p:PI}(h:okI w p)(hb:Below w.heap.size w w'):okI w' p:=⟨h.1.step hb,h.2.step hb⟩
theorem okI.span{p:PI}(h:okI w p):okS w (spanP p):=⟨h.1,h.2⟩
structure SS(w:World)(A:Option Addr)(n c:Nat)(xs:List PS):Prop where
 sr:SR 12 recS w A n c xs
 sz:n*176≤reach
 ok:∀x∈xs,okS w x
structure SI(w:World)(A:Option Addr)(n c:Nat)(xs:List PI):Prop where
 sr:SR 12 recI w A n c xs
 sz:n*168≤reach
 ok:∀x∈xs,okI w x
variable {A:Option Addr} {n c:Nat}
theorem SI.step{xs:List PI}(h:SI w A n c xs)(hb:Below w.heap.size w w'):SI w' A n c xs:=⟨h.sr.step hb,h.sz,fun x hx=>(h.ok x hx).step hb⟩
theorem SS.at{xs:List PS}(h:SS w A n c xs){i:Nat}{p:PS}(hi:xs[i]?=some p):∃b off,A=some ⟨b,off,none⟩∧b<w.heap.size∧SAt w b (off+i*12) p∧okS w p:=by
 have hn:0<n:=by have:=(List.getElem?_eq_some_iff.1 hi).1;have:=h.sr.ln;omega
 obtain⟨b,off,e,hb,hel⟩:=h.sr.el hn
 exact⟨b,off,e,hb,sat_of fun j v hj=>hel i p hi j v hj,h.ok p (List.mem_of_getElem? hi)⟩
theorem SI.at{xs:List PI}(h:SI w A n c xs){i:Nat}{p:PI}(hi:xs[i]?=some p):∃b off,A=some ⟨b,off,none⟩∧b<w.heap.size∧IAt w b (off+i*12) p∧okI w p:=by
 have hn:0<n:=by have:=(List.getElem?_eq_some_iff.1 hi).1;have:=h.sr.ln;omega
 obtain⟨b,off,e,hb,hel⟩:=h.sr.el hn
 exact⟨b,off,e,hb,iat_of fun j v hj=>hel i p hi j v hj,h.ok p (List.mem_of_getElem? hi)⟩
theorem SS.of_own{base:Nat}{t:TypeId}{v:Value}{xs:List PS}(h:w.ownsRow base t 12 v n (flat recS xs))(hl:xs.length=n)(hz:n*176≤reach)(hr:∀p∈xs,okS w p):∃A c,v=.slice A n c∧SS w A n c xs:=by
 obtain⟨A,c,rfl,hs⟩:=SR.of_own recS_length h hl
 exact⟨A,c,rfl,hs,hz,hr⟩
theorem SI.of_own{base:Nat}{t:TypeId}{v:Value}{xs:List PI}(h:w.ownsRow base t 12 v n (flat recI xs))(hl:xs.length=n)(hz:n*168≤reach)(hr:∀p∈xs,okI w p):∃A c,v=.slice A n c∧SI w A n c xs:=by
 obtain⟨A,c,rfl,hs⟩:=SR.of_own recI_length h hl
 exact⟨A,c,rfl,hs,hz,hr⟩
end
theorem info_span:(Tryz.prog.info? 127).map (fun i=>(i.zero,i.size,i.bytes))=some (some (aggS (((VC.zero,Val.zero),false),((VC.zero,Val.zero),false))),12,176):=by kernel_rfl
theorem info_interval:(Tryz.prog.info? 67).map (fun i=>(i.zero,i.size,i.bytes))=some (some (aggI (((VC.zero,Val.zero),(VC.zero,Val.zero)),(false,false))),12,168):=by kernel_rfl
theorem compare_any(p q:PC)(w:World)(hp:okC w p)(hq:okC w q):
 Calls Tryz.prog 147 #[aggK p,aggK q] w fun e w'=>e=.returned (.int .i64 (cmC (cutP p) (cutP q)))∧Below w.heap.size w w':=by
 have HP:=qD hp
 have HQ:=qD hq
 have Z2:=qD (((Below.refl w.heap.size w).alloc (qL) (Obj.cells (arrC p) 125)).alloc (by simp) (Obj.cells (arrC q) 125))
 have B0:Hid (Blk ((w.alloc (.cells (arrC p) 125)).alloc (.cells (arrC q) 125)) w.heap.size 125 (arrC p)):=(Blk.new_at rfl).alloc _
 have B1:Hid (Blk ((w.alloc (.cells (arrC p) 125)).alloc (.cells (arrC q) 125)) (w.heap.size+1) 125 (arrC q)):=Blk.new_at (by simp)
 clear hp hq
 go_enter Tryz.func147,Tryz.ntmps147
 go_wp2_with fail
 refine(cmp_any p.1.2 q.1.2 p.1.1 q.1.1 _ (HP.out.step Z2.out) (HQ.out.step Z2.out)).mono ?_
 rintro e w1 ⟨rfl,hb1⟩
 have Z1:=qD (Z2.out.step' hb1)
 obtain⟨_,p5⟩:=CAt.of_blk (B0.out.step hb1)
 obtain⟨_,q5⟩:=CAt.of_blk (B1.out.step hb1)
 simp only[Nat.zero_add] at p5 q5
 clear hb1
 by_cases h0:cmpV p.1.2 q.1.2=0
 ·have HC:Hid (cmC (cutP p) (cutP q)=cmB p.2 q.2):=cmC_zero (a:=cutP p) (b:=cutP q) h0
  rw[h0]
  clear h0
  cases h1:p.2<;>cases h2:q.2
  all_goals
   rw[h1] at p5
   rw[h2] at q5
   rw[h1,h2] at HC
   clear h1 h2
   go_wp2_with fail
   go_ret
   exact⟨by rw[HC.out];rfl,Z1.out⟩
 ·have HC:Hid (cmC (cutP p) (cutP q)=cmpV p.1.2 q.1.2):=cmC_ne (a:=cutP p) (b:=cutP q) h0
  have h1:(cmpV p.1.2 q.1.2 != 0)=true:=by simpa using h0
  clear h0
  go_wp2_with fail
  go_ret
  exact⟨by rw[HC.out];rfl,Z1.out⟩
theorem mcmp_any(p q:PS)(w:World)(hp:okS w p)(hq:okS w q):
 Calls Tryz.prog 146 #[aggS p,aggS q] w fun e w'=>e=.returned (.int .i64 (cmC (spP p).1 (spP q).1))∧Below w.heap.size w w':=by
 have HP:=qD hp
 have HQ:=qD hq
 have Z2:=qD (((Below.refl w.heap.size w).alloc (qL) (Obj.cells (arrS p) 127)).alloc (by simp) (Obj.cells (arrS q) 127))
 clear hp hq
 go_enter Tryz.func146,Tryz.ntmps146
 go_wp2_with fail
 refine(compare_any p.1 q.1 _ (HP.out.step Z2.out).1 (HQ.out.step Z2.out).1).mono ?_
 rintro e w1 ⟨rfl,hb1⟩
 go_wp2_with fail
 go_ret
 exact⟨rfl,Z2.out.step' hb1⟩
theorem wrap_i64'{a:Int}(h1:-9223372036854775808≤a)(h2:a≤9223372036854775807):IntKind.i64.wrap a=a:=IntWalk.i64_in _ ⟨h1,h2⟩
def recTSp(e:PS×Nat):List Value:=recS e.1
theorem recTSp_length(e:PS×Nat):(recTSp e).length=12:=recS_length e.1
def SRowSp(w:World)(g:Nat)(L:List (PS×Nat)):Prop:=∃R:List Value,Blk w g 127 (flat recTSp L++R).toArray
theorem setList_app{α:Type}:∀(vs l R:List α) (k:Nat),k+vs.length≤l.length→setList (l++R) k vs=setList l k vs++R:=by
 intro vs
 induction vs with
 | nil=>intro l R k _;rfl
 | cons v vs ih=>
  intro l R k h
  simp only[List.length_cons] at h
  rw[setList,setList,List.set_append_left _ _ (by omega),ih _ _ _ (by rw[List.length_set];omega)]
abbrev aggSp(p:PS×Nat):Value:=.agg #[.int .i64 p.1.1.1.1.k,.int .i64 p.1.1.1.1.n,.string p.1.1.1.1.t,.slice p.1.1.1.1.LA p.1.1.1.1.ln p.1.1.1.1.lc,.slice p.1.1.1.1.DA p.1.1.1.1.dn p.1.1.1.1.dc,.bool p.1.1.2,.int .i64 p.1.2.1.1.k,.int .i64 p.1.2.1.1.n,.string p.1.2.1.1.t,.slice p.1.2.1.1.LA p.1.2.1.1.ln p.1.2.1.1.lc,.slice p.1.2.1.1.DA p.1.2.1.1.dn p.1.2.1.1.dc,.bool p.1.2.2]
section
variable {w w':World} {g:Nat} {L:List (PS×Nat)}
theorem SRowSp.cell(h:SRowSp w g L){j:Nat}{p:PS×Nat}(hj:L[j]?=some p)(i:Nat)(v:Value)(hi:(recTSp p)[i]?=some v):w.cell? ⟨g,j*12+i,none⟩=some v:=by
 obtain⟨R,h⟩:=h
 have hf:=flat_get recTSp_length hj hi
 rw[Blk.cell h (j*12+i),List.getElem?_toArray,List.getElem?_append_left (List.getElem?_eq_some_iff.1 hf).1]
 exact hf
theorem SRowSp.step(h:SRowSp w g L)(hb:Below w.heap.size w w'):SRowSp w' g L:=by obtain⟨R,h⟩:=h;exact⟨R,Blk.step h hb⟩
theorem SRowSp.drew(h:SRowSp w g L):SRowSp w.drew g L:=by obtain⟨R,h⟩:=h;exact⟨R,Blk.drew h⟩
theorem SRowSp.frozen(h:SRowSp w g L)(i:Nat):w.frozen? ⟨g,i,none⟩=false:=by obtain⟨R,h⟩:=h;exact Blk.frozen h i
theorem SRowSp.lt(h:SRowSp w g L):g<w.heap.size:=by obtain⟨R,h⟩:=h;exact Blk.lt h
theorem SRowSp.put(h:SRowSp w g L){j:Nat}(hj:j<L.length)(p:PS×Nat):SRowSp ((((((((((((w.setCell ⟨g,j*12,none⟩ (.int .i64 p.1.1.1.1.k)).setCell ⟨g,j*12+1,none⟩ (.int .i64 p.1.1.1.1.n)).setCell ⟨g,j*12+2,none⟩ (.string p.1.1.1.1.t)).setCell ⟨g,j*12+3,none⟩ (.slice p.1.1.1.1.LA p.1.1.1.1.ln p.1.1.1.1.lc)).setCell ⟨g,j*12+4,none⟩ (.slice p.1.1.1.1.DA p.1.1.1.1.dn p.1.1.1.1.dc)).setCell ⟨g,j*12+5,none⟩ (.bool p.1.1.2)).setCell ⟨g,j*12+6,none⟩ (.int .i64 p.1.2.1.1.k)).setCell ⟨g,j*12+7,none⟩ (.int .i64 p.1.2.1.1.n)).setCell ⟨g,j*12+8,none⟩ (.string p.1.2.1.1.t)).setCell ⟨g,j*12+9,none⟩ (.slice p.1.2.1.1.LA p.1.2.1.1.ln p.1.2.1.1.lc)).setCell ⟨g,j*12+10,none⟩ (.slice p.1.2.1.1.DA p.1.2.1.1.dn p.1.2.1.1.dc)).setCell ⟨g,j*12+11,none⟩ (.bool p.1.2.2)) g (L.set j p):=by
 obtain⟨R,h⟩:=h
 have hl:=flat_length recTSp_length L
 have e:flat recTSp (L.set j p)++R=setList (flat recTSp L++R) (j*12) (recTSp p):=by
  rw[flat_set recTSp_length L j p hj,setList_app _ _ _ _ (by rw[recTSp_length];omega)]
 refine⟨R,?_⟩
 rw[e]
 clear e hl
 generalize flat recTSp L++R=X at h ⊢
 have:=Blk.set_ (Blk.set_ (Blk.set_ (Blk.set_ (Blk.set_ (Blk.set_ (Blk.set_ (Blk.set_ (Blk.set_ (Blk.set_ (Blk.set_ (Blk.set_ h (j*12) (.int .i64 p.1.1.1.1.k)) (j*12+1) (.int .i64 p.1.1.1.1.n)) (j*12+2) (.string p.1.1.1.1.t)) (j*12+3) (.slice p.1.1.1.1.LA p.1.1.1.1.ln p.1.1.1.1.lc)) (j*12+4) (.slice p.1.1.1.1.DA p.1.1.1.1.dn p.1.1.1.1.dc)) (j*12+5) (.bool p.1.1.2)) (j*12+6) (.int .i64 p.1.2.1.1.k)) (j*12+7) (.int .i64 p.1.2.1.1.n)) (j*12+8) (.string p.1.2.1.1.t)) (j*12+9) (.slice p.1.2.1.1.LA p.1.2.1.1.ln p.1.2.1.1.lc)) (j*12+10) (.slice p.1.2.1.1.DA p.1.2.1.1.dn p.1.2.1.1.dc)) (j*12+11) (.bool p.1.2.2)
 rw[show(setList X (j*12) (recTSp p)).toArray=((((((((((((X.toArray.setIfInBounds (j*12) (.int .i64 p.1.1.1.1.k)).setIfInBounds (j*12+1) (.int .i64 p.1.1.1.1.n)).setIfInBounds (j*12+2) (.string p.1.1.1.1.t)).setIfInBounds (j*12+3) (.slice p.1.1.1.1.LA p.1.1.1.1.ln p.1.1.1.1.lc)).setIfInBounds (j*12+4) (.slice p.1.1.1.1.DA p.1.1.1.1.dn p.1.1.1.1.dc)).setIfInBounds (j*12+5) (.bool p.1.1.2)).setIfInBounds (j*12+6) (.int .i64 p.1.2.1.1.k)).setIfInBounds (j*12+7) (.int .i64 p.1.2.1.1.n)).setIfInBounds (j*12+8) (.string p.1.2.1.1.t)).setIfInBounds (j*12+9) (.slice p.1.2.1.1.LA p.1.2.1.1.ln p.1.2.1.1.lc)).setIfInBounds (j*12+10) (.slice p.1.2.1.1.DA p.1.2.1.1.dn p.1.2.1.1.dc)).setIfInBounds (j*12+11) (.bool p.1.2.2)) from by simp[setList,recTSp,recS,recK,recV,VC.list]]
 exact this
end
theorem swap_list{α:Type}(A S3 S2 E:List α)(x y:α):((A++((S3++[y])++x::S2)++E).set (A.length+(S3.length+1)) y).set (A.length+(S3.length+1)-1) x=A++(S3++x::y::S2)++E:=by
 rw[show A.length+(S3.length+1)-1=A.length+S3.length by omega]
 simp
def CmpOkSp(g:Nat)(w:World)(U:List (PS×Nat)):Prop:=∀(x y:PS×Nat),x∈U→y∈U→∀wr,But g w wr→
 Calls Tryz.prog 146 #[aggSp x,aggSp y] wr fun e w'=>e=.returned (.int .i64 (cmC (spP x.1).1 (spP y.1).1))∧Below wr.heap.size wr w'
structure IsSp(g:Nat)(w:World)(L:List (PS×Nat))(wr:World):Prop where
 row:SRowSp wr g L
 but:But g w wr
theorem IsSp.step{g:Nat}{w wr w':World}{L:List (PS×Nat)}(h:IsSp g w L wr)(hb:Below wr.heap.size wr w'):IsSp g w L w':=⟨h.row.step hb,h.but.step hb⟩
theorem IsSp.swap{g:Nat}{w w2:World}{L:List (PS×Nat)}(h:IsSp g w L w2){jj:Nat}(hl:jj<L.length)(x y:PS×Nat):IsSp g w ((L.set jj y).set (jj-1) x) ((((((((((((((((((((((((w2.setCell ⟨g,jj*12,none⟩ (.int .i64 y.1.1.1.1.k)).setCell ⟨g,jj*12+1,none⟩ (.int .i64 y.1.1.1.1.n)).setCell ⟨g,jj*12+2,none⟩ (.string y.1.1.1.1.t)).setCell ⟨g,jj*12+3,none⟩ (.slice y.1.1.1.1.LA y.1.1.1.1.ln y.1.1.1.1.lc)).setCell ⟨g,jj*12+4,none⟩ (.slice y.1.1.1.1.DA y.1.1.1.1.dn y.1.1.1.1.dc)).setCell ⟨g,jj*12+5,none⟩ (.bool y.1.1.2)).setCell ⟨g,jj*12+6,none⟩ (.int .i64 y.1.2.1.1.k)).setCell ⟨g,jj*12+7,none⟩ (.int .i64 y.1.2.1.1.n)).setCell ⟨g,jj*12+8,none⟩ (.string y.1.2.1.1.t)).setCell ⟨g,jj*12+9,none⟩ (.slice y.1.2.1.1.LA y.1.2.1.1.ln y.1.2.1.1.lc)).setCell ⟨g,jj*12+10,none⟩ (.slice y.1.2.1.1.DA y.1.2.1.1.dn y.1.2.1.1.dc)).setCell ⟨g,jj*12+11,none⟩ (.bool y.1.2.2)).setCell ⟨g,(jj-1)*12,none⟩ (.int .i64 x.1.1.1.1.k)).setCell ⟨g,(jj-1)*12+1,none⟩ (.int .i64 x.1.1.1.1.n)).setCell ⟨g,(jj-1)*12+2,none⟩ (.string x.1.1.1.1.t)).setCell ⟨g,(jj-1)*12+3,none⟩ (.slice x.1.1.1.1.LA x.1.1.1.1.ln x.1.1.1.1.lc)).setCell ⟨g,(jj-1)*12+4,none⟩ (.slice x.1.1.1.1.DA x.1.1.1.1.dn x.1.1.1.1.dc)).setCell ⟨g,(jj-1)*12+5,none⟩ (.bool x.1.1.2)).setCell ⟨g,(jj-1)*12+6,none⟩ (.int .i64 x.1.2.1.1.k)).setCell ⟨g,(jj-1)*12+7,none⟩ (.int .i64 x.1.2.1.1.n)).setCell ⟨g,(jj-1)*12+8,none⟩ (.string x.1.2.1.1.t)).setCell ⟨g,(jj-1)*12+9,none⟩ (.slice x.1.2.1.1.LA x.1.2.1.1.ln x.1.2.1.1.lc)).setCell ⟨g,(jj-1)*12+10,none⟩ (.slice x.1.2.1.1.DA x.1.2.1.1.dn x.1.2.1.1.dc)).setCell ⟨g,(jj-1)*12+11,none⟩ (.bool x.1.2.2)).drew:=
 ⟨SRowSp.drew ((h.row.put hl y).put (j:=jj-1) (by rw[List.length_set];omega) x),But.step ((((((((((((((((((((((((h.but.set (p:=⟨g,jj*12,none⟩) rfl (.int .i64 y.1.1.1.1.k)).set (p:=⟨g,jj*12+1,none⟩) rfl (.int .i64 y.1.1.1.1.n)).set (p:=⟨g,jj*12+2,none⟩) rfl (.string y.1.1.1.1.t)).set (p:=⟨g,jj*12+3,none⟩) rfl (.slice y.1.1.1.1.LA y.1.1.1.1.ln y.1.1.1.1.lc)).set (p:=⟨g,jj*12+4,none⟩) rfl (.slice y.1.1.1.1.DA y.1.1.1.1.dn y.1.1.1.1.dc)).set (p:=⟨g,jj*12+5,none⟩) rfl (.bool y.1.1.2)).set (p:=⟨g,jj*12+6,none⟩) rfl (.int .i64 y.1.2.1.1.k)).set (p:=⟨g,jj*12+7,none⟩) rfl (.int .i64 y.1.2.1.1.n)).set (p:=⟨g,jj*12+8,none⟩) rfl (.string y.1.2.1.1.t)).set (p:=⟨g,jj*12+9,none⟩) rfl (.slice y.1.2.1.1.LA y.1.2.1.1.ln y.1.2.1.1.lc)).set (p:=⟨g,jj*12+10,none⟩) rfl (.slice y.1.2.1.1.DA y.1.2.1.1.dn y.1.2.1.1.dc)).set (p:=⟨g,jj*12+11,none⟩) rfl (.bool y.1.2.2)).set (p:=⟨g,(jj-1)*12,none⟩) rfl (.int .i64 x.1.1.1.1.k)).set (p:=⟨g,(jj-1)*12+1,none⟩) rfl (.int .i64 x.1.1.1.1.n)).set (p:=⟨g,(jj-1)*12+2,none⟩) rfl (.string x.1.1.1.1.t)).set (p:=⟨g,(jj-1)*12+3,none⟩) rfl (.slice x.1.1.1.1.LA x.1.1.1.1.ln x.1.1.1.1.lc)).set (p:=⟨g,(jj-1)*12+4,none⟩) rfl (.slice x.1.1.1.1.DA x.1.1.1.1.dn x.1.1.1.1.dc)).set (p:=⟨g,(jj-1)*12+5,none⟩) rfl (.bool x.1.1.2)).set (p:=⟨g,(jj-1)*12+6,none⟩) rfl (.int .i64 x.1.2.1.1.k)).set (p:=⟨g,(jj-1)*12+7,none⟩) rfl (.int .i64 x.1.2.1.1.n)).set (p:=⟨g,(jj-1)*12+8,none⟩) rfl (.string x.1.2.1.1.t)).set (p:=⟨g,(jj-1)*12+9,none⟩) rfl (.slice x.1.2.1.1.LA x.1.2.1.1.ln x.1.2.1.1.lc)).set (p:=⟨g,(jj-1)*12+10,none⟩) rfl (.slice x.1.2.1.1.DA x.1.2.1.1.dn x.1.2.1.1.dc)).set (p:=⟨g,(jj-1)*12+11,none⟩) rfl (.bool x.1.2.2)) ((Below.refl _ _).drew)⟩
def IsDoneSp(g:Nat)(w:World)(A Seg D:List (PS×Nat))(e:Ending)(w':World):Prop:=
 e=.returned (.tuple #[])∧∃S,Sorted (fun p q:PS=>cmC (spP p).1 (spP q).1) Seg S∧IsSp g w (A++S++D) w'
theorem isortSp_any(H:Ordered (fun p q:PS=>cmC (spP p).1 (spP q).1))(A Seg D:List (PS×Nat))(g n c a b:Nat)(w:World)(hr:SRowSp w g (A++Seg++D))(hn:n=(A++Seg++D).length)(ha:a=A.length)(hb:b=A.length+Seg.length)(hz:n*176≤reach)(ht:Tagged Seg)(hc:CmpOkSp g w Seg):
 Calls Tryz.prog 207 #[.slice (some ⟨g,0,none⟩) n c,.int .i64 a,.int .i64 b,.func (.func 146) #[] #[]] w (IsDoneSp g w A Seg D):=by
 unfold reach at hz
 have HN:=qD hn
 have HA:=qD ha
 have HBq:=qD hb
 have hab:a≤b:=by omega
 have hbn:b≤n:=by rw[hn];simp;omega
 have HC:=qD hc
 have HT:=qD ht
 have HO:=qD H
 have I0:Hid (IsSp g w (A++Seg++D) w):=qD ⟨hr,But.refl⟩
 clear hr hn ha hb ht hc H
 cases hs:Seg with
 | nil=>
  have hab':b≤a:=by have:=HA.out;have:=HBq.out;rw[hs] at this;simp at this;omega
  have HS:=qD hs
  clear hs
  go_enter Tryz.func207,Tryz.ntmps207
  go_wp2_with fail
  go_loopw [8] (fun v8 wr=>v8=.int .i64 (a+1)∧wr=w) (fun _ _=>0)
  case atStart=>exact⟨by go_num,rfl⟩
  case round=>
   obtain⟨rfl,rfl⟩:=hrel
   go_wp2_with fail
   go_end0
   exact⟨rfl,[],Sorted.nil,by have:=I0.out;rw[HS.out] at this;exact this⟩
 | cons x0 rest=>
  have HS:=qD hs
  clear hs
  rw[←HS.out]
  go_enter Tryz.func207,Tryz.ntmps207
  go_wp2_with fail
  go_loopw [8] (fun v8 wr=>∃(i:Nat) (P Q S:List (PS×Nat)),v8=.int .i64 i∧i=a+P.length∧1≤P.length∧i≤b∧Seg=P++Q∧Sorted (fun p q:PS=>cmC (spP p).1 (spP q).1) P S∧IsSp g w (A++S++(Q++D)) wr) (fun v8 _=>b-(intOf v8).toNat)
  case atStart=>
   refine⟨a+1,[x0],rest,[x0],by go_num,rfl,qL,?_,HS.out,Sorted.one x0,?_⟩
   ·have:=HBq.out;have:=HA.out;rw[HS.out] at*;simp at*;omega
   ·have:=I0.out
    rw[HS.out] at this
    simpa using this
  case round=>
   obtain⟨i,P,Q,S,rfl,hi,hP,hib,hPQ,hS,I⟩:=hrel
   have HI:=qD hi
   have HPQ:=qD hPQ
   have HSo:=qD hS
   have J:=qD I
   clear hi hPQ hS
   by_cases hlt:i<b
   ·obtain⟨x,Q',hQ⟩:∃x Q',Q=x::Q':=by
     cases Q with
     | nil=>
      have h1:=HBq.out
      have h2:=HI.out
      have h3:=HA.out
      rw[HPQ.out] at h1
      simp at h1
      omega
     | cons x Q'=>exact⟨x,Q',rfl⟩
    have HQ:=qD hQ
    have hSl:S.length=P.length:=HSo.out.perm.length_eq
    have HSl:=qD hSl
    clear I hSl hQ
    go_wp2_with fail
    go_loopw [9] (fun v9 wr=>∃(jj:Nat) (S1 S2:List (PS×Nat)),v9=.int .i64 jj∧jj=a+S1.length∧jj≤i∧S=S1++S2∧(∀y∈S2,cmC (spP x.1).1 (spP y.1).1<0)∧IsSp g w (A++(S1++x::S2)++(Q'++D)) wr) (fun v9 _=>(intOf v9).toNat)
    case atStart=>
     refine⟨i,S,[],rfl,by rw[HI.out,HSl.out],qL,by simp,by simp,?_⟩
     have:=J.out
     rw[HQ.out] at this
     simpa using this
    case round=>
     clear J
     obtain⟨jj,S1,S2,rfl,hj,hji,hSS,hall,I⟩:=hrel
     have HJ:=qD hj
     have HSS:=qD hSS
     have HAll:=qD hall
     have J:=qD I
     clear hj hSS hall
     by_cases hgt:a<jj
     ·obtain⟨S3,y,hS3⟩:∃S3 y,S1=S3++[y]:=by
       rcases List.eq_nil_or_concat S1 with h|⟨S3,y,h⟩
       ·have:=HJ.out;rw[h] at this;simp at this;omega
       ·exact⟨S3,y,by rw[h,List.concat_eq_append]⟩
      have hA:=HA.out
      have hj1:jj=A.length+(S3.length+1):=by rw[HJ.out,hS3];simp;omega
      have hx:(A++(S1++x::S2)++(Q'++D))[jj]?=some x:=by
       rw[hS3,hj1];simp
      have hy:(A++(S1++x::S2)++(Q'++D))[jj-1]?=some y:=by
       rw[hS3,hj1];simp
      have hxm:x∈Seg:=by rw[HPQ.out,HQ.out];simp
      have hym:y∈Seg:=by
       rw[HPQ.out]
       exact List.mem_append_left _ (HSo.out.perm.subset (by rw[HSS.out,hS3];simp))
      have p0:wr.cell? ⟨g,jj*12,none⟩=some (.int .i64 x.1.1.1.1.k):=I.row.cell hx 0 _ rfl
      have p1:wr.cell? ⟨g,jj*12+1,none⟩=some (.int .i64 x.1.1.1.1.n):=I.row.cell hx 1 _ rfl
      have p2:wr.cell? ⟨g,jj*12+2,none⟩=some (.string x.1.1.1.1.t):=I.row.cell hx 2 _ rfl
      have p3:wr.cell? ⟨g,jj*12+3,none⟩=some (.slice x.1.1.1.1.LA x.1.1.1.1.ln x.1.1.1.1.lc):=I.row.cell hx 3 _ rfl
      have p4:wr.cell? ⟨g,jj*12+4,none⟩=some (.slice x.1.1.1.1.DA x.1.1.1.1.dn x.1.1.1.1.dc):=I.row.cell hx 4 _ rfl
      have p5:wr.cell? ⟨g,jj*12+5,none⟩=some (.bool x.1.1.2):=I.row.cell hx 5 _ rfl
      have p6:wr.cell? ⟨g,jj*12+6,none⟩=some (.int .i64 x.1.2.1.1.k):=I.row.cell hx 6 _ rfl
      have p7:wr.cell? ⟨g,jj*12+7,none⟩=some (.int .i64 x.1.2.1.1.n):=I.row.cell hx 7 _ rfl
      have p8:wr.cell? ⟨g,jj*12+8,none⟩=some (.string x.1.2.1.1.t):=I.row.cell hx 8 _ rfl
      have p9:wr.cell? ⟨g,jj*12+9,none⟩=some (.slice x.1.2.1.1.LA x.1.2.1.1.ln x.1.2.1.1.lc):=I.row.cell hx 9 _ rfl
      have p10:wr.cell? ⟨g,jj*12+10,none⟩=some (.slice x.1.2.1.1.DA x.1.2.1.1.dn x.1.2.1.1.dc):=I.row.cell hx 10 _ rfl
      have p11:wr.cell? ⟨g,jj*12+11,none⟩=some (.bool x.1.2.2):=I.row.cell hx 11 _ rfl
      have r0:wr.cell? ⟨g,(jj-1)*12,none⟩=some (.int .i64 y.1.1.1.1.k):=I.row.cell hy 0 _ rfl
      have r1:wr.cell? ⟨g,(jj-1)*12+1,none⟩=some (.int .i64 y.1.1.1.1.n):=I.row.cell hy 1 _ rfl
      have r2:wr.cell? ⟨g,(jj-1)*12+2,none⟩=some (.string y.1.1.1.1.t):=I.row.cell hy 2 _ rfl
      have r3:wr.cell? ⟨g,(jj-1)*12+3,none⟩=some (.slice y.1.1.1.1.LA y.1.1.1.1.ln y.1.1.1.1.lc):=I.row.cell hy 3 _ rfl
      have r4:wr.cell? ⟨g,(jj-1)*12+4,none⟩=some (.slice y.1.1.1.1.DA y.1.1.1.1.dn y.1.1.1.1.dc):=I.row.cell hy 4 _ rfl
      have r5:wr.cell? ⟨g,(jj-1)*12+5,none⟩=some (.bool y.1.1.2):=I.row.cell hy 5 _ rfl
      have r6:wr.cell? ⟨g,(jj-1)*12+6,none⟩=some (.int .i64 y.1.2.1.1.k):=I.row.cell hy 6 _ rfl
      have r7:wr.cell? ⟨g,(jj-1)*12+7,none⟩=some (.int .i64 y.1.2.1.1.n):=I.row.cell hy 7 _ rfl
      have r8:wr.cell? ⟨g,(jj-1)*12+8,none⟩=some (.string y.1.2.1.1.t):=I.row.cell hy 8 _ rfl
      have r9:wr.cell? ⟨g,(jj-1)*12+9,none⟩=some (.slice y.1.2.1.1.LA y.1.2.1.1.ln y.1.2.1.1.lc):=I.row.cell hy 9 _ rfl
      have r10:wr.cell? ⟨g,(jj-1)*12+10,none⟩=some (.slice y.1.2.1.1.DA y.1.2.1.1.dn y.1.2.1.1.dc):=I.row.cell hy 10 _ rfl
      have r11:wr.cell? ⟨g,(jj-1)*12+11,none⟩=some (.bool y.1.2.2):=I.row.cell hy 11 _ rfl
      have P0:∀k:BW wr,k.val.cell? ⟨g,jj*12,none⟩=some (.int .i64 x.1.1.1.1.k):=fun k=>k.cell p0
      have P1:∀k:BW wr,k.val.cell? ⟨g,jj*12+1,none⟩=some (.int .i64 x.1.1.1.1.n):=fun k=>k.cell p1
      have P2:∀k:BW wr,k.val.cell? ⟨g,jj*12+2,none⟩=some (.string x.1.1.1.1.t):=fun k=>k.cell p2
      have P3:∀k:BW wr,k.val.cell? ⟨g,jj*12+3,none⟩=some (.slice x.1.1.1.1.LA x.1.1.1.1.ln x.1.1.1.1.lc):=fun k=>k.cell p3
      have P4:∀k:BW wr,k.val.cell? ⟨g,jj*12+4,none⟩=some (.slice x.1.1.1.1.DA x.1.1.1.1.dn x.1.1.1.1.dc):=fun k=>k.cell p4
      have P5:∀k:BW wr,k.val.cell? ⟨g,jj*12+5,none⟩=some (.bool x.1.1.2):=fun k=>k.cell p5
      have P6:∀k:BW wr,k.val.cell? ⟨g,jj*12+6,none⟩=some (.int .i64 x.1.2.1.1.k):=fun k=>k.cell p6
      have P7:∀k:BW wr,k.val.cell? ⟨g,jj*12+7,none⟩=some (.int .i64 x.1.2.1.1.n):=fun k=>k.cell p7
      have P8:∀k:BW wr,k.val.cell? ⟨g,jj*12+8,none⟩=some (.string x.1.2.1.1.t):=fun k=>k.cell p8
      have P9:∀k:BW wr,k.val.cell? ⟨g,jj*12+9,none⟩=some (.slice x.1.2.1.1.LA x.1.2.1.1.ln x.1.2.1.1.lc):=fun k=>k.cell p9
      have P10:∀k:BW wr,k.val.cell? ⟨g,jj*12+10,none⟩=some (.slice x.1.2.1.1.DA x.1.2.1.1.dn x.1.2.1.1.dc):=fun k=>k.cell p10
      have P11:∀k:BW wr,k.val.cell? ⟨g,jj*12+11,none⟩=some (.bool x.1.2.2):=fun k=>k.cell p11
      have R0:∀k:BW wr,k.val.cell? ⟨g,(jj-1)*12,none⟩=some (.int .i64 y.1.1.1.1.k):=fun k=>k.cell r0
      have R1:∀k:BW wr,k.val.cell? ⟨g,(jj-1)*12+1,none⟩=some (.int .i64 y.1.1.1.1.n):=fun k=>k.cell r1
      have R2:∀k:BW wr,k.val.cell? ⟨g,(jj-1)*12+2,none⟩=some (.string y.1.1.1.1.t):=fun k=>k.cell r2
      have R3:∀k:BW wr,k.val.cell? ⟨g,(jj-1)*12+3,none⟩=some (.slice y.1.1.1.1.LA y.1.1.1.1.ln y.1.1.1.1.lc):=fun k=>k.cell r3
      have R4:∀k:BW wr,k.val.cell? ⟨g,(jj-1)*12+4,none⟩=some (.slice y.1.1.1.1.DA y.1.1.1.1.dn y.1.1.1.1.dc):=fun k=>k.cell r4
      have R5:∀k:BW wr,k.val.cell? ⟨g,(jj-1)*12+5,none⟩=some (.bool y.1.1.2):=fun k=>k.cell r5
      have R6:∀k:BW wr,k.val.cell? ⟨g,(jj-1)*12+6,none⟩=some (.int .i64 y.1.2.1.1.k):=fun k=>k.cell r6
      have R7:∀k:BW wr,k.val.cell? ⟨g,(jj-1)*12+7,none⟩=some (.int .i64 y.1.2.1.1.n):=fun k=>k.cell r7
      have R8:∀k:BW wr,k.val.cell? ⟨g,(jj-1)*12+8,none⟩=some (.string y.1.2.1.1.t):=fun k=>k.cell r8
      have R9:∀k:BW wr,k.val.cell? ⟨g,(jj-1)*12+9,none⟩=some (.slice y.1.2.1.1.LA y.1.2.1.1.ln y.1.2.1.1.lc):=fun k=>k.cell r9
      have R10:∀k:BW wr,k.val.cell? ⟨g,(jj-1)*12+10,none⟩=some (.slice y.1.2.1.1.DA y.1.2.1.1.dn y.1.2.1.1.dc):=fun k=>k.cell r10
      have R11:∀k:BW wr,k.val.cell? ⟨g,(jj-1)*12+11,none⟩=some (.bool y.1.2.2):=fun k=>k.cell r11
      have hjn:jj<n:=by omega
      have i0:(0:Int)≤(jj:Int):=by omega
      have i1:(jj:Int)<(n:Int):=by omega
      have i2:(0:Int)≤(jj:Int)-1:=by omega
      have i3:(jj:Int)-1<(n:Int):=by omega
      have W1:IntKind.i64.wrap ((jj:Int)-1)=(jj:Int)-1:=wrap_i64' (by omega) (by omega)
      have W2:((jj:Int)-1).toNat=jj-1:=by omega
      have K1:Hid (∀k:BW wr,Calls Tryz.prog 146 #[aggSp x,aggSp y] k.val fun e w''=>e=.returned (.int .i64 (cmC (spP x.1).1 (spP y.1).1))∧∃k:BW wr,w''=k.val):=fun k=>
       Calls.bw (HC.out x y hxm hym k.val (I.but.step k.below))
      have HX:=qD hx
      have HY:=qD hy
      have HS3:=qD hS3
      have HJ1:=qD hj1
      clear p0 r0 p1 r1 p2 r2 p3 r3 p4 r4 p5 r5 p6 r6 p7 r7 p8 r8 p9 r9 p10 r10 p11 r11 hx hy hxm hym I hS3 hj1 hA
      go_upto_region 4 with fail
      refine wp_region_bw (by kernel_rfl) (by kernel_rfl) ?_
      repeat(go_big_quiet_step (with_reducible exact K1.out _))
      refine wpQuiet_nil ?_
      rintro _ ⟨kw,rfl⟩
      have J2:=qD (J.out.step kw.below)
      clear P0 R0 P1 R1 P2 R2 P3 R3 P4 R4 P5 R5 P6 R6 P7 R7 P8 R8 P9 R9 P10 R10 P11 R11 K1 W1 W2 i0 i1 i2 i3
      generalize kw.val=w2 at*
      by_cases hc:cmC (spP x.1).1 (spP y.1).1<0
      ·have p0:w2.cell? ⟨g,jj*12,none⟩=some (.int .i64 x.1.1.1.1.k):=J2.out.row.cell HX.out 0 _ rfl
       have p1:w2.cell? ⟨g,jj*12+1,none⟩=some (.int .i64 x.1.1.1.1.n):=J2.out.row.cell HX.out 1 _ rfl
       have p2:w2.cell? ⟨g,jj*12+2,none⟩=some (.string x.1.1.1.1.t):=J2.out.row.cell HX.out 2 _ rfl
       have p3:w2.cell? ⟨g,jj*12+3,none⟩=some (.slice x.1.1.1.1.LA x.1.1.1.1.ln x.1.1.1.1.lc):=J2.out.row.cell HX.out 3 _ rfl
       have p4:w2.cell? ⟨g,jj*12+4,none⟩=some (.slice x.1.1.1.1.DA x.1.1.1.1.dn x.1.1.1.1.dc):=J2.out.row.cell HX.out 4 _ rfl
       have p5:w2.cell? ⟨g,jj*12+5,none⟩=some (.bool x.1.1.2):=J2.out.row.cell HX.out 5 _ rfl
       have p6:w2.cell? ⟨g,jj*12+6,none⟩=some (.int .i64 x.1.2.1.1.k):=J2.out.row.cell HX.out 6 _ rfl
       have p7:w2.cell? ⟨g,jj*12+7,none⟩=some (.int .i64 x.1.2.1.1.n):=J2.out.row.cell HX.out 7 _ rfl
       have p8:w2.cell? ⟨g,jj*12+8,none⟩=some (.string x.1.2.1.1.t):=J2.out.row.cell HX.out 8 _ rfl
       have p9:w2.cell? ⟨g,jj*12+9,none⟩=some (.slice x.1.2.1.1.LA x.1.2.1.1.ln x.1.2.1.1.lc):=J2.out.row.cell HX.out 9 _ rfl
       have p10:w2.cell? ⟨g,jj*12+10,none⟩=some (.slice x.1.2.1.1.DA x.1.2.1.1.dn x.1.2.1.1.dc):=J2.out.row.cell HX.out 10 _ rfl
       have p11:w2.cell? ⟨g,jj*12+11,none⟩=some (.bool x.1.2.2):=J2.out.row.cell HX.out 11 _ rfl
       have r0:w2.cell? ⟨g,(jj-1)*12,none⟩=some (.int .i64 y.1.1.1.1.k):=J2.out.row.cell HY.out 0 _ rfl
       have r1:w2.cell? ⟨g,(jj-1)*12+1,none⟩=some (.int .i64 y.1.1.1.1.n):=J2.out.row.cell HY.out 1 _ rfl
       have r2:w2.cell? ⟨g,(jj-1)*12+2,none⟩=some (.string y.1.1.1.1.t):=J2.out.row.cell HY.out 2 _ rfl
       have r3:w2.cell? ⟨g,(jj-1)*12+3,none⟩=some (.slice y.1.1.1.1.LA y.1.1.1.1.ln y.1.1.1.1.lc):=J2.out.row.cell HY.out 3 _ rfl
       have r4:w2.cell? ⟨g,(jj-1)*12+4,none⟩=some (.slice y.1.1.1.1.DA y.1.1.1.1.dn y.1.1.1.1.dc):=J2.out.row.cell HY.out 4 _ rfl
       have r5:w2.cell? ⟨g,(jj-1)*12+5,none⟩=some (.bool y.1.1.2):=J2.out.row.cell HY.out 5 _ rfl
       have r6:w2.cell? ⟨g,(jj-1)*12+6,none⟩=some (.int .i64 y.1.2.1.1.k):=J2.out.row.cell HY.out 6 _ rfl
       have r7:w2.cell? ⟨g,(jj-1)*12+7,none⟩=some (.int .i64 y.1.2.1.1.n):=J2.out.row.cell HY.out 7 _ rfl
       have r8:w2.cell? ⟨g,(jj-1)*12+8,none⟩=some (.string y.1.2.1.1.t):=J2.out.row.cell HY.out 8 _ rfl
       have r9:w2.cell? ⟨g,(jj-1)*12+9,none⟩=some (.slice y.1.2.1.1.LA y.1.2.1.1.ln y.1.2.1.1.lc):=J2.out.row.cell HY.out 9 _ rfl
       have r10:w2.cell? ⟨g,(jj-1)*12+10,none⟩=some (.slice y.1.2.1.1.DA y.1.2.1.1.dn y.1.2.1.1.dc):=J2.out.row.cell HY.out 10 _ rfl
       have r11:w2.cell? ⟨g,(jj-1)*12+11,none⟩=some (.bool y.1.2.2):=J2.out.row.cell HY.out 11 _ rfl
       have z:=SRowSp.frozen J2.out.row
       go_upto_region 6 with fail
       go_region
       all_goals
        clear p0 r0 p1 r1 p2 r2 p3 r3 p4 r4 p5 r5 p6 r6 p7 r7 p8 r8 p9 r9 p10 r10 p11 r11 z
        go_wp2_with fail
        refine⟨⟨jj-1,S3,y::S2,by rw[show((jj-1:Nat):Int)=(jj:Int)-1 by omega],by rw[HJ1.out,HA.out];omega,by omega,by rw[HSS.out,HS3.out];simp,?_,?_⟩,by simp[intOf];omega⟩
        ·intro q hq
         rcases List.mem_cons.1 hq with rfl|hq
         ·exact hc
         ·exact HAll.out q hq
        ·have hl:jj<(A++(S1++x::S2)++(Q'++D)).length:=(List.getElem?_eq_some_iff.1 HX.out).1
         have r1:=J2.out.swap hl x y
         rw[HS3.out,HJ1.out,swap_list,←HJ1.out] at r1
         exact r1
      ·have HD:Hid (Sorted (fun p q:PS=>cmC (spP p).1 (spP q).1) (P++[x]) (S1++x::S2)):=by
        refine Sorted.insert HO.out (by rw[←HSS.out];exact HSo.out) (fun y hy=>?_) HAll.out (fun q hq=>?_)
        ·have h:=HT.out
         rw[HPQ.out,HQ.out] at h
         exact(List.pairwise_append.1 h).2.2 y hy x (by simp)
        ·rw[HS3.out] at hq
         simp at hq
         subst hq
         exact hc
       go_wp2_with fail
       go_roundw
       case rel=>exact⟨i+1,P++[x],Q',S1++x::S2,by go_num,by rw[HI.out];simp;omega,by simp,by omega,by rw[HPQ.out,HQ.out];simp,HD.out,J2.out⟩
       case measure=>simp[intOf];omega
     ·have HN1:Hid (S1=[]):=List.eq_nil_of_length_eq_zero (by have:=HJ.out;omega)
      have HD:Hid (Sorted (fun p q:PS=>cmC (spP p).1 (spP q).1) (P++[x]) (S1++x::S2)):=by
       refine Sorted.insert HO.out (by rw[←HSS.out];exact HSo.out) (fun y hy=>?_) HAll.out (fun q hq=>?_)
       ·have h:=HT.out
        rw[HPQ.out,HQ.out] at h
        exact(List.pairwise_append.1 h).2.2 y hy x (by simp)
       ·rw[HN1.out] at hq
        simp at hq
      clear I
      have hgt':decide ((a:Int)<(jj:Int))=false:=decide_eq_false (by omega)
      go_upto_region 4 with fail
      go_quiet (fail)
      go_wp2_with fail
      go_roundw
      case rel=>exact⟨i+1,P++[x],Q',S1++x::S2,by go_num,by rw[HI.out];simp;omega,by simp,by omega,by rw[HPQ.out,HQ.out];simp,HD.out,J.out.step (Below.drewN (Below.refl _ _) _)⟩
      case measure=>simp[intOf];omega
   ·have HF:Hid (Q=[]):=by
     have h1:=HBq.out
     have h2:=HI.out
     have h3:=HA.out
     rw[HPQ.out] at h1
     simp at h1
     exact List.eq_nil_of_length_eq_zero (by omega)
    clear I
    go_wp2_with fail
    go_end0
    refine⟨rfl,S,?_,?_⟩
    ·have:=HSo.out;rw[HPQ.out,HF.out,List.append_nil];exact this
    ·have:=J.out;rw[HF.out,List.nil_append] at this;exact this
theorem IsSp.swap2{g:Nat}{w w2:World}{L:List (PS×Nat)}(h:IsSp g w L w2){p q:Nat}(hp:p<L.length)(hq:q<L.length)(x y:PS×Nat):IsSp g w ((L.set p y).set q x) ((((((((((((((((((((((((w2.setCell ⟨g,p*12,none⟩ (.int .i64 y.1.1.1.1.k)).setCell ⟨g,p*12+1,none⟩ (.int .i64 y.1.1.1.1.n)).setCell ⟨g,p*12+2,none⟩ (.string y.1.1.1.1.t)).setCell ⟨g,p*12+3,none⟩ (.slice y.1.1.1.1.LA y.1.1.1.1.ln y.1.1.1.1.lc)).setCell ⟨g,p*12+4,none⟩ (.slice y.1.1.1.1.DA y.1.1.1.1.dn y.1.1.1.1.dc)).setCell ⟨g,p*12+5,none⟩ (.bool y.1.1.2)).setCell ⟨g,p*12+6,none⟩ (.int .i64 y.1.2.1.1.k)).setCell ⟨g,p*12+7,none⟩ (.int .i64 y.1.2.1.1.n)).setCell ⟨g,p*12+8,none⟩ (.string y.1.2.1.1.t)).setCell ⟨g,p*12+9,none⟩ (.slice y.1.2.1.1.LA y.1.2.1.1.ln y.1.2.1.1.lc)).setCell ⟨g,p*12+10,none⟩ (.slice y.1.2.1.1.DA y.1.2.1.1.dn y.1.2.1.1.dc)).setCell ⟨g,p*12+11,none⟩ (.bool y.1.2.2)).setCell ⟨g,q*12,none⟩ (.int .i64 x.1.1.1.1.k)).setCell ⟨g,q*12+1,none⟩ (.int .i64 x.1.1.1.1.n)).setCell ⟨g,q*12+2,none⟩ (.string x.1.1.1.1.t)).setCell ⟨g,q*12+3,none⟩ (.slice x.1.1.1.1.LA x.1.1.1.1.ln x.1.1.1.1.lc)).setCell ⟨g,q*12+4,none⟩ (.slice x.1.1.1.1.DA x.1.1.1.1.dn x.1.1.1.1.dc)).setCell ⟨g,q*12+5,none⟩ (.bool x.1.1.2)).setCell ⟨g,q*12+6,none⟩ (.int .i64 x.1.2.1.1.k)).setCell ⟨g,q*12+7,none⟩ (.int .i64 x.1.2.1.1.n)).setCell ⟨g,q*12+8,none⟩ (.string x.1.2.1.1.t)).setCell ⟨g,q*12+9,none⟩ (.slice x.1.2.1.1.LA x.1.2.1.1.ln x.1.2.1.1.lc)).setCell ⟨g,q*12+10,none⟩ (.slice x.1.2.1.1.DA x.1.2.1.1.dn x.1.2.1.1.dc)).setCell ⟨g,q*12+11,none⟩ (.bool x.1.2.2)).drew:=
 ⟨SRowSp.drew ((h.row.put hp y).put (j:=q) (by rw[List.length_set];exact hq) x),But.step ((((((((((((((((((((((((h.but.set (p:=⟨g,p*12,none⟩) rfl (.int .i64 y.1.1.1.1.k)).set (p:=⟨g,p*12+1,none⟩) rfl (.int .i64 y.1.1.1.1.n)).set (p:=⟨g,p*12+2,none⟩) rfl (.string y.1.1.1.1.t)).set (p:=⟨g,p*12+3,none⟩) rfl (.slice y.1.1.1.1.LA y.1.1.1.1.ln y.1.1.1.1.lc)).set (p:=⟨g,p*12+4,none⟩) rfl (.slice y.1.1.1.1.DA y.1.1.1.1.dn y.1.1.1.1.dc)).set (p:=⟨g,p*12+5,none⟩) rfl (.bool y.1.1.2)).set (p:=⟨g,p*12+6,none⟩) rfl (.int .i64 y.1.2.1.1.k)).set (p:=⟨g,p*12+7,none⟩) rfl (.int .i64 y.1.2.1.1.n)).set (p:=⟨g,p*12+8,none⟩) rfl (.string y.1.2.1.1.t)).set (p:=⟨g,p*12+9,none⟩) rfl (.slice y.1.2.1.1.LA y.1.2.1.1.ln y.1.2.1.1.lc)).set (p:=⟨g,p*12+10,none⟩) rfl (.slice y.1.2.1.1.DA y.1.2.1.1.dn y.1.2.1.1.dc)).set (p:=⟨g,p*12+11,none⟩) rfl (.bool y.1.2.2)).set (p:=⟨g,q*12,none⟩) rfl (.int .i64 x.1.1.1.1.k)).set (p:=⟨g,q*12+1,none⟩) rfl (.int .i64 x.1.1.1.1.n)).set (p:=⟨g,q*12+2,none⟩) rfl (.string x.1.1.1.1.t)).set (p:=⟨g,q*12+3,none⟩) rfl (.slice x.1.1.1.1.LA x.1.1.1.1.ln x.1.1.1.1.lc)).set (p:=⟨g,q*12+4,none⟩) rfl (.slice x.1.1.1.1.DA x.1.1.1.1.dn x.1.1.1.1.dc)).set (p:=⟨g,q*12+5,none⟩) rfl (.bool x.1.1.2)).set (p:=⟨g,q*12+6,none⟩) rfl (.int .i64 x.1.2.1.1.k)).set (p:=⟨g,q*12+7,none⟩) rfl (.int .i64 x.1.2.1.1.n)).set (p:=⟨g,q*12+8,none⟩) rfl (.string x.1.2.1.1.t)).set (p:=⟨g,q*12+9,none⟩) rfl (.slice x.1.2.1.1.LA x.1.2.1.1.ln x.1.2.1.1.lc)).set (p:=⟨g,q*12+10,none⟩) rfl (.slice x.1.2.1.1.DA x.1.2.1.1.dn x.1.2.1.1.dc)).set (p:=⟨g,q*12+11,none⟩) rfl (.bool x.1.2.2)) ((Below.refl _ _).drew)⟩
theorem swap2_list{α:Type}(A V1 U2 M U1 V2 D:List α)(x y:α):
 ((A++(V1++x::U2)++M++(U1++y::V2)++D).set (A.length+V1.length) y).set (A.length+(V1.length+(U2.length+1))+M.length+U1.length) x=A++((V1++[y])++U2)++M++((U1++[x])++V2)++D:=by
 have e1:(A++(V1++x::U2)++M++(U1++y::V2)++D).set (A.length+V1.length) y=(A++V1++y::U2++M++U1)++y::(V2++D):=by
  rw[show A++(V1++x::U2)++M++(U1++y::V2)++D=(A++V1)++x::(U2++(M++(U1++y::(V2++D)))) by simp,List.set_append_right _ _ (by simp),show A.length+V1.length-(A++V1).length=0 by simp]
  simp
 rw[e1,List.set_append_right _ _ (by simp;omega),show A.length+(V1.length+(U2.length+1))+M.length+U1.length-(A++V1++y::U2++M++U1).length=0 by simp;omega]
 simp
theorem swap2_x{α:Type}(A V1 U2 M U1 V2 D:List α)(x y:α):(A++(V1++x::U2)++M++(U1++y::V2)++D)[A.length+V1.length]?=some x:=by
 rw[show A++(V1++x::U2)++M++(U1++y::V2)++D=(A++V1)++x::(U2++(M++(U1++y::(V2++D)))) by simp,List.getElem?_append_right (by simp)]
 simp
theorem swap2_y{α:Type}(A V1 U2 M U1 V2 D:List α)(x y:α):(A++(V1++x::U2)++M++(U1++y::V2)++D)[A.length+(V1.length+(U2.length+1))+M.length+U1.length]?=some y:=by
 rw[show A++(V1++x::U2)++M++(U1++y::V2)++D=(A++V1++x::U2++M++U1)++y::(V2++D) by simp,List.getElem?_append_right (by simp;omega)]
 rw[show A.length+(V1.length+(U2.length+1))+M.length+U1.length-(A++V1++x::U2++M++U1).length=0 by simp;omega]
 rfl
def RowDoneSp(g:Nat)(w:World)(L:List (PS×Nat))(e:Ending)(w':World):Prop:=e=.returned (.tuple #[])∧IsSp g w L w'
theorem swapRangeSp_any(A U M V D:List (PS×Nat))(g n c a b k:Nat)(aI bI kI:Int)(fv:Value)(w:World)(hr:SRowSp w g (A++U++M++V++D))(hn:n=(A++U++M++V++D).length)(ha:a=A.length)(hb:b=A.length+U.length+M.length)(hk:k=U.length)(hkv:k=V.length)(haI:aI=a)(hbI:bI=b)(hkI:kI=k)(hz:n*176≤reach):
 Calls Tryz.prog 225 #[.slice (some ⟨g,0,none⟩) n c,.int .i64 aI,.int .i64 bI,.int .i64 kI,fv] w (RowDoneSp g w (A++V++M++U++D)):=by
 subst haI hbI hkI
 unfold reach at hz
 have hbn:b+k≤n:=by rw[hn];simp;omega
 have hab:a+k≤b:=by omega
 have HA:=qD ha
 have HBq:=qD hb
 have HK:=qD hk
 have HKV:=qD hkv
 have HN:=qD hn
 have I0:Hid (IsSp g w (A++U++M++V++D) w):=qD ⟨hr,But.refl⟩
 clear hr hn ha hb hk hkv
 go_enter Tryz.func225,Tryz.ntmps225
 go_wp2_with fail
 go_loopw [10] (fun v10 wr=>∃(i:Nat) (U1 U2 V1 V2:List (PS×Nat)),v10=.int .i64 i∧i≤k∧i=U1.length∧i=V1.length∧U=U1++U2∧V=V1++V2∧IsSp g w (A++(V1++U2)++M++(U1++V2)++D) wr) (fun v10 _=>k-(intOf v10).toNat)
 case atStart=>exact⟨0,[],U,[],V,rfl,Nat.zero_le _,rfl,rfl,rfl,rfl,I0.out⟩
 case round=>
  obtain⟨i,U1,U2,V1,V2,rfl,hik,hU1,hV1,hU,hV,I⟩:=hrel
  have HU1:=qD hU1
  have HV1:=qD hV1
  have HU:=qD hU
  have HV:=qD hV
  have J:=qD I
  by_cases hlt:i<k
  ·obtain⟨x,U3,hx⟩:∃x U3,U2=x::U3:=by
    cases U2 with
    | nil=>have h1:=HK.out;rw[hU] at h1;simp at h1;omega
    | cons x U3=>exact⟨x,U3,rfl⟩
   obtain⟨y,V3,hy⟩:∃y V3,V2=y::V3:=by
    cases V2 with
    | nil=>have h1:=HKV.out;rw[hV] at h1;simp at h1;omega
    | cons y V3=>exact⟨y,V3,rfl⟩
   subst hx hy
   have hp:a+i=A.length+V1.length:=by rw[HA.out,←hV1]
   have hq:b+i=A.length+(V1.length+(U3.length+1))+M.length+U1.length:=by
    have h1:=HBq.out
    rw[hU] at h1
    simp at h1
    omega
   have HX:Hid ((A++(V1++x::U3)++M++(U1++y::V3)++D)[a+i]?=some x):=by rw[Hid,hp];exact swap2_x A V1 U3 M U1 V3 D x y
   have HY:Hid ((A++(V1++x::U3)++M++(U1++y::V3)++D)[b+i]?=some y):=by rw[Hid,hq];exact swap2_y A V1 U3 M U1 V3 D x y
   have HSw:Hid (((A++(V1++x::U3)++M++(U1++y::V3)++D).set (a+i) y).set (b+i) x=A++((V1++[y])++U3)++M++((U1++[x])++V3)++D):=by
    rw[Hid,hp,hq]
    exact swap2_list A V1 U3 M U1 V3 D x y
   have p0:wr.cell? ⟨g,(a+i)*12,none⟩=some (.int .i64 x.1.1.1.1.k):=J.out.row.cell HX.out 0 _ rfl
   have p1:wr.cell? ⟨g,(a+i)*12+1,none⟩=some (.int .i64 x.1.1.1.1.n):=J.out.row.cell HX.out 1 _ rfl
   have p2:wr.cell? ⟨g,(a+i)*12+2,none⟩=some (.string x.1.1.1.1.t):=J.out.row.cell HX.out 2 _ rfl
   have p3:wr.cell? ⟨g,(a+i)*12+3,none⟩=some (.slice x.1.1.1.1.LA x.1.1.1.1.ln x.1.1.1.1.lc):=J.out.row.cell HX.out 3 _ rfl
   have p4:wr.cell? ⟨g,(a+i)*12+4,none⟩=some (.slice x.1.1.1.1.DA x.1.1.1.1.dn x.1.1.1.1.dc):=J.out.row.cell HX.out 4 _ rfl
   have p5:wr.cell? ⟨g,(a+i)*12+5,none⟩=some (.bool x.1.1.2):=J.out.row.cell HX.out 5 _ rfl
   have p6:wr.cell? ⟨g,(a+i)*12+6,none⟩=some (.int .i64 x.1.2.1.1.k):=J.out.row.cell HX.out 6 _ rfl
   have p7:wr.cell? ⟨g,(a+i)*12+7,none⟩=some (.int .i64 x.1.2.1.1.n):=J.out.row.cell HX.out 7 _ rfl
   have p8:wr.cell? ⟨g,(a+i)*12+8,none⟩=some (.string x.1.2.1.1.t):=J.out.row.cell HX.out 8 _ rfl
   have p9:wr.cell? ⟨g,(a+i)*12+9,none⟩=some (.slice x.1.2.1.1.LA x.1.2.1.1.ln x.1.2.1.1.lc):=J.out.row.cell HX.out 9 _ rfl
   have p10:wr.cell? ⟨g,(a+i)*12+10,none⟩=some (.slice x.1.2.1.1.DA x.1.2.1.1.dn x.1.2.1.1.dc):=J.out.row.cell HX.out 10 _ rfl
   have p11:wr.cell? ⟨g,(a+i)*12+11,none⟩=some (.bool x.1.2.2):=J.out.row.cell HX.out 11 _ rfl
   have r0:wr.cell? ⟨g,(b+i)*12,none⟩=some (.int .i64 y.1.1.1.1.k):=J.out.row.cell HY.out 0 _ rfl
   have r1:wr.cell? ⟨g,(b+i)*12+1,none⟩=some (.int .i64 y.1.1.1.1.n):=J.out.row.cell HY.out 1 _ rfl
   have r2:wr.cell? ⟨g,(b+i)*12+2,none⟩=some (.string y.1.1.1.1.t):=J.out.row.cell HY.out 2 _ rfl
   have r3:wr.cell? ⟨g,(b+i)*12+3,none⟩=some (.slice y.1.1.1.1.LA y.1.1.1.1.ln y.1.1.1.1.lc):=J.out.row.cell HY.out 3 _ rfl
   have r4:wr.cell? ⟨g,(b+i)*12+4,none⟩=some (.slice y.1.1.1.1.DA y.1.1.1.1.dn y.1.1.1.1.dc):=J.out.row.cell HY.out 4 _ rfl
   have r5:wr.cell? ⟨g,(b+i)*12+5,none⟩=some (.bool y.1.1.2):=J.out.row.cell HY.out 5 _ rfl
   have r6:wr.cell? ⟨g,(b+i)*12+6,none⟩=some (.int .i64 y.1.2.1.1.k):=J.out.row.cell HY.out 6 _ rfl
   have r7:wr.cell? ⟨g,(b+i)*12+7,none⟩=some (.int .i64 y.1.2.1.1.n):=J.out.row.cell HY.out 7 _ rfl
   have r8:wr.cell? ⟨g,(b+i)*12+8,none⟩=some (.string y.1.2.1.1.t):=J.out.row.cell HY.out 8 _ rfl
   have r9:wr.cell? ⟨g,(b+i)*12+9,none⟩=some (.slice y.1.2.1.1.LA y.1.2.1.1.ln y.1.2.1.1.lc):=J.out.row.cell HY.out 9 _ rfl
   have r10:wr.cell? ⟨g,(b+i)*12+10,none⟩=some (.slice y.1.2.1.1.DA y.1.2.1.1.dn y.1.2.1.1.dc):=J.out.row.cell HY.out 10 _ rfl
   have r11:wr.cell? ⟨g,(b+i)*12+11,none⟩=some (.bool y.1.2.2):=J.out.row.cell HY.out 11 _ rfl
   have z:=SRowSp.frozen J.out.row
   clear hU1 hV1 hU hV I hp hq
   go_upto_region 3 with fail
   go_region
   all_goals
    clear p0 r0 p1 r1 p2 r2 p3 r3 p4 r4 p5 r5 p6 r6 p7 r7 p8 r8 p9 r9 p10 r10 p11 r11 z
    go_wp2_with fail
    refine⟨⟨i+1,U1++[x],U3,V1++[y],V3,by go_num,by omega,by rw[HU1.out];simp,by rw[HV1.out];simp,by rw[HU.out];simp,by rw[HV.out];simp,?_⟩,by simp[intOf];omega⟩
    have r1:=J.out.swap2 (List.getElem?_eq_some_iff.1 HX.out).1 (List.getElem?_eq_some_iff.1 HY.out).1 x y
    rw[HSw.out] at r1
    exact r1
  ·have e1:U2=[]:=List.eq_nil_of_length_eq_zero (by have h1:=HK.out;rw[hU] at h1;simp at h1;omega)
   have e2:V2=[]:=List.eq_nil_of_length_eq_zero (by have h1:=HKV.out;rw[hV] at h1;simp at h1;omega)
   have HF:Hid (IsSp g w (A++V++M++U++D) wr):=by
    rw[Hid,hU,hV,e1,e2]
    simp only[List.append_nil]
    rw[e1,e2] at I
    simp only[List.append_nil] at I
    exact I
   clear hU1 hV1 hU hV I e1 e2
   go_wp2_with fail
   go_end0
   exact⟨rfl,HF.out⟩
theorem IsSp.then{g:Nat}{w w1 w2:World}{L L':List (PS×Nat)}(h:IsSp g w L w1)(h':IsSp g w1 L' w2):IsSp g w L' w2:=⟨h'.row,h.but.trans h'.but⟩
theorem rotateSp_any(A P Q D:List (PS×Nat))(g n c a m b:Nat)(aI mI bI:Int)(fv:Value)(w:World)(hr:SRowSp w g (A++P++Q++D))(hn:n=(A++P++Q++D).length)(ha:a=A.length)(hm:m=A.length+P.length)(hb:b=A.length+P.length+Q.length)(hP:1≤P.length)(hQ:1≤Q.length)(haI:aI=a)(hmI:mI=m)(hbI:bI=b)(hz:n*176≤reach):
 Calls Tryz.prog 219 #[.slice (some ⟨g,0,none⟩) n c,.int .i64 aI,.int .i64 mI,.int .i64 bI,fv] w (RowDoneSp g w (A++Q++P++D)):=by
 subst haI hmI hbI
 have HZ:=qD hz
 unfold reach at hz
 have ham:a≤m:=by omega
 have hmb:m≤b:=by omega
 have hbn:b≤n:=by rw[hn];simp;omega
 have HN:=qD hn
 have I0:Hid (IsSp g w (A++P++Q++D) w):=qD ⟨hr,But.refl⟩
 have HP:Hid (m-a=P.length):=by unfold Hid;omega
 have HQ:Hid (b-m=Q.length):=by unfold Hid;omega
 have HM:Hid (A.length+P.length=m):=hm.symm
 have hi1:1≤m-a:=by omega
 have hj1:1≤b-m:=by omega
 clear hr hn ha hm hb hP hQ
 go_enter Tryz.func219,Tryz.ntmps219
 go_wp2_with fail
 go_loopw [10,11] (fun v10 v11 wr=>∃(i j:Nat) (A' U V D':List (PS×Nat)),v10=.int .i64 i∧v11=.int .i64 j∧i=U.length∧j=V.length∧1≤i∧1≤j∧A'.length+i=m∧n=(A'++U++V++D').length∧A'++V++U++D'=A++Q++P++D∧IsSp g w (A'++U++V++D') wr) (fun v10 v11 _=>(intOf v10).toNat+(intOf v11).toNat)
 case atStart=>exact⟨m-a,b-m,A,P,Q,D,by go_num,by go_num,HP.out,HQ.out,hi1,hj1,by rw[HP.out];exact HM.out,HN.out,rfl,I0.out⟩
 case round=>
  obtain⟨i,j,A',U,V,D',rfl,rfl,hU,hV,hi,hj,hm',hn',ht,I⟩:=hrel
  have HU:=qD hU
  have HV:=qD hV
  have HM':=qD hm'
  have HN':=qD hn'
  have HTg:=qD ht
  have J:=qD I
  have him:i≤m:=by omega
  have hjn:m+j≤n:=by rw[hn'];simp;omega
  clear hU hV hn' ht I hm'
  cases hne:((i:Int) != (j:Int))
  ·have hij:i=j:=by simp at hne;omega
   have HR:Hid (SRowSp wr g (A'++U++[]++V++D')):=by rw[Hid,List.append_nil];exact J.out.row
   have HN2:Hid (n=(A'++U++[]++V++D').length):=by rw[Hid,List.append_nil];exact HN'.out
   have HIJ:=qD hij
   clear hij
   go_wp2_with fail
   refine(swapRangeSp_any A' U [] V D' g n c A'.length m i _ _ _ _ _ HR.out HN2.out rfl (by have:=HU.out;have:=HM'.out;simp;omega) HU.out (by rw[HIJ.out];exact HV.out) (by have:=HM'.out;omega) (by omega) rfl HZ.out).mono ?_
   rintro e w1 ⟨rfl,h1⟩
   have H1:=qD (J.out.then h1)
   clear h1
   go_wp2_with fail
   go_end0
   refine⟨rfl,?_⟩
   have:=H1.out
   rw[List.append_nil,HTg.out] at this
   exact this
  ·have hij:i≠j:=by simp at hne;omega
   by_cases hgt:j<i
   ·obtain⟨U1,U2,hUU,hU1⟩:∃U1 U2,U=U1++U2∧U1.length=j:=⟨U.take j,U.drop j,(List.take_append_drop j U).symm,by rw[List.length_take];have:=HU.out;omega⟩
    have hU2:U2.length=i-j:=by have h1:=HU.out;rw[hUU] at h1;simp at h1;omega
    have HR:Hid (SRowSp wr g (A'++U1++U2++V++D')):=by have:=J.out.row;rw[hUU] at this;rw[Hid];simpa using this
    have HN2:Hid (n=(A'++U1++U2++V++D').length):=by have:=HN'.out;rw[hUU] at this;rw[Hid,this];simp
    have HUU:=qD hUU
    have HU1:=qD hU1
    have HU2:=qD hU2
    clear hUU hU1 hU2 hij
    go_wp2_with fail
    refine(swapRangeSp_any A' U1 U2 V D' g n c A'.length m j _ _ _ _ _ HR.out HN2.out rfl (by have:=HU1.out;have:=HU2.out;have:=HM'.out;omega) HU1.out.symm HV.out (by have:=HM'.out;omega) rfl rfl HZ.out).mono ?_
    rintro e w1 ⟨rfl,h1⟩
    have H1:=qD (J.out.then h1)
    clear h1
    go_wp2_with fail
    go_roundw
    case rel=>
     refine⟨i-j,j,A'++V,U2,U1,D',by go_num,rfl,HU2.out.symm,HU1.out.symm,by omega,hj,by rw[List.length_append,←HV.out];have:=HM'.out;omega,?_,?_,?_⟩
     ·have:=HN2.out;simp at this;simp;omega
     ·rw[←HTg.out,HUU.out];simp
     ·exact H1.out
    case measure=>simp[intOf];omega
   ·obtain⟨V1,V2,hVV,hV1⟩:∃V1 V2,V=V1++V2∧V1.length=j-i:=⟨V.take (j-i),V.drop (j-i),(List.take_append_drop (j-i) V).symm,by rw[List.length_take];have:=HV.out;omega⟩
    have hV2:V2.length=i:=by have h1:=HV.out;rw[hVV] at h1;simp at h1;omega
    have HR:Hid (SRowSp wr g (A'++U++V1++V2++D')):=by have:=J.out.row;rw[hVV] at this;rw[Hid];simpa using this
    have HN2:Hid (n=(A'++U++V1++V2++D').length):=by have:=HN'.out;rw[hVV] at this;rw[Hid,this];simp
    have HVV:=qD hVV
    have HV1:=qD hV1
    have HV2:=qD hV2
    have hlt:i<j:=by omega
    clear hVV hV1 hV2 hij
    go_wp2_with fail
    refine(swapRangeSp_any A' U V1 V2 D' g n c A'.length (m+j-i) i _ _ _ _ _ HR.out HN2.out rfl (by have:=HU.out;have:=HV1.out;have:=HM'.out;omega) HU.out HV2.out.symm (by have:=HM'.out;omega) (by omega) rfl HZ.out).mono ?_
    rintro e w1 ⟨rfl,h1⟩
    have H1:=qD (J.out.then h1)
    clear h1
    go_wp2_with fail
    go_roundw
    case rel=>
     refine⟨i,j-i,A',V2,V1,U++D',rfl,by go_num,HV2.out.symm,HV1.out.symm,hi,by omega,HM'.out,?_,?_,?_⟩
     ·have:=HN2.out;simp at this;simp;omega
     ·rw[←HTg.out,HVV.out];simp
     ·have:=H1.out;simpa using this
    case measure=>simp[intOf];omega
end Go.Proofs.YtfkapannahcjiaaGreatDoor
