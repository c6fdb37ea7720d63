/- Parts of the proof, joined: BoAnd, IvBaseB, IvBaseD, BoOr, BoKind6, BoOfA, BoOfB, BoOfC, ShOf. -/
import Derived.Test.YtfkapannahcjiaaGreatDoorRa1
import Derived.Test.YtfkapannahcjiaaGreatDoorRa22
import Derived.Test.YtfkapannahcjiaaGreatDoorRa21
import Derived.Test.YtfkapannahcjiaaGreatDoorRa11
import Derived.Test.YtfkapannahcjiaaGreatDoorRa16
import Derived.Test.YtfkapannahcjiaaGreatDoorRa18
import Derived.Test.YtfkapannahcjiaaGreatDoorRa19
import Derived.Test.YtfkapannahcjiaaGreatDoorRa4
import Derived.Test.YtfkapannahcjiaaGreatDoorRa3
import Derived.Lib.AppendZerosOnto
set_option maxRecDepth 100000
set_option maxHeartbeats 16000000
set_option linter.unusedSimpArgs false
namespace Go.Proofs.YtfkapannahcjiaaGreatDoor
open Go.RowKit
def OfAt(k:PrT):Prop:=∀(A:Option Addr) (n c:Nat) (l:List ByteArray) (w:World),WP w k→VPr k→Tabs w→ST w A n c l→k.sz≤300000000→
 Calls Tryz.prog 22 #[aggPr k,.slice A n c] w (OfOk (ofS l k) k.sz w)
theorem firstS_cons(r:PSet)(rs:List PSet):firstS (r::rs)=if isAllB r.1 then firstS rs else(r.1,false):=rfl
theorem andS_many{rs:List PSet}(h:rs.length≠1):andS rs=firstS rs:=by
 unfold andS
 split
 ·simp at h
 ·rfl
theorem arrPr_all(p:PrT):(arrPr p).all (·.oneCell')=true:=by simp[Value.oneCell']
theorem ofAnd_any(p:PrT)(ih:∀k∈p.kids,OfAt k)(A:Option Addr)(n c:Nat)(l:List ByteArray)(w:World)(hw:WP w p)(hk:∀k∈p.kids,VPr k)(hT:Tabs w)(hl:ST w A n c l)(hz:p.sz≤300000000):
 Calls Tryz.prog 55 #[aggPr p,.slice A n c] w (OfOk (andS (p.kids.map (ofS l))) p.sz w):=by
 have HT:=qD hT
 have W:=qD hw.open
 have HL:=qD hl
 have IH:Hid (∀k∈p.kids,∀wr,Below w.heap.size w wr→Calls Tryz.prog 22 #[aggPr k,.slice A n c] wr (OfOk (ofS l k) p.sz wr)):=qD fun k hkm wr hb=>by
  have hs:k.sz≤p.sz:=by rw[p.sz_eq];have:=szL_ge hkm;omega
  exact(ih k hkm A n c l wr ((W.out.kids k hkm).step hb) (hk k hkm) (HT.out.step hb) (HL.out.step hb) (by omega)).mono fun e w' h=>h.up (Below.refl _ _) hs
 have hkz:p.kn≤140737488355328:=by have:=W.out.ksz;unfold reach at this;omega
 have HKN:=qD W.out.sr.ln
 have HSZ:Hid (1≤p.sz):=by rw[Hid,p.sz_eq];omega
 clear hw hk hT hl hz ih
 have B0:Hid (Blk (w.alloc (.cells (arrPr p) 38)) w.heap.size 38 (arrPr p)):=Blk.new_at rfl
 have BE:=qD ((Below.refl w.heap.size w).alloc (qL) (Obj.cells (arrPr p) 38))
 go_enter Tryz.func55,Tryz.ntmps55
 go_upto_region 1 with fail
 change Code.wp _ _ _ _ (w.alloc (.cells (arrPr p) 38))
 generalize w.alloc (.cells (arrPr p) 38)=wa at*
 obtain⟨_,_,_,_,_,_,_,d24⟩:=pr_cells B0.out
 by_cases h1:p.kn=1
 ·obtain⟨b,off,k,hA,hb,hx,hm,hrg⟩:=W.out.sr.row (i:=0) (by omega)
  have RG:=qD (range_step hrg BE.out hb)
  have HM:=qD hm
  have HAND:Hid (andS (p.kids.map (ofS l))=ofS l k):=by
   obtain⟨y,hy⟩:=List.length_eq_one_iff.1 (show p.kids.length=1 by have:=HKN.out;omega)
   rw[hy] at hx ⊢
   obtain rfl:y=k:=by simpa using hx
   rfl
  rw[Nat.zero_mul,Nat.add_zero] at RG
  rw[hA,h1] at d24
  clear hrg hx hm hA
  go_wp2_with (first
   | ((with_reducible show wpList _ _ _ (⟨_,.load 38 _,_,_,_,_⟩::_) _ _);refine wpList_mid_w rfl 38 _ rfl b off rfl _ _ RG.out Tryz.underlying38 rfl (by kernel_rfl) ?_)
   | (go_at_call 22;refine(IH.out k HM.out _ BE.out).mono ?_;rintro e w1 ⟨A3,m3,c3,ys,nf,rfl,hy,hnf,hmk,hsi,hb3,hfr⟩;have HNO:=qD (show OfOk (ofS l k) p.sz _ (.returned (.tuple #[.slice A3 m3 c3,.bool (ofS l k).2])) w1 from⟨A3,m3,c3,ys,nf,rfl,hy,hnf,hmk,hsi,hb3,hfr⟩);clear hy hnf hmk hsi hb3 hfr))
  go_ret2
  rw[HAND.out]
  exact HNO.out.up BE.out (qL)
 ·have HAND:Hid (andS (p.kids.map (ofS l))=firstS (p.kids.map (ofS l))):=qD (andS_many (by rw[List.length_map];have:=HKN.out;omega))
  have h1b:((p.kn:Int)==1)=false:=by simp;omega
  clear h1
  go_upto_region 4 with fail
  go_loopw [7,8,9,25] (fun _ _ _ v wr=>∃i:Nat,i≤p.kn∧v=.int .i64 i∧firstS (p.kids.map (ofS l))=firstS ((p.kids.drop i).map (ofS l))∧Below w.heap.size w wr) (fun _ _ _ v _=>p.kn-(intOf v).toNat)
  case atStart=>exact⟨0,Nat.zero_le _,rfl,rfl,BE.out⟩
  case round=>
   obtain⟨i,hi,rfl,hf,hBE⟩:=hrel
   clear B0 BE d24
   have BE:=qD hBE
   have HF:=qD hf
   clear hf hBE
   by_cases hlt:i<p.kn
   ·obtain⟨b,off,k,hA,hb,hx,hm,hrg⟩:=W.out.sr.row hlt
    have RG:=qD (range_step hrg BE.out hb)
    have HX:=qD (drop_of hx)
    have HM:=qD hm
    have i0:(0:Int)≤(i:Int):=by omega
    have i1:(i:Int)<(p.kn:Int):=by omega
    rw[hA]
    clear hrg hx hm hA
    go_upto_region 6 with(first
     | ((with_reducible show wpList _ _ _ (⟨_,.load 38 _,_,_,_,_⟩::_) _ _);refine wpList_mid_w rfl 38 _ rfl b (off+i*25) rfl _ _ RG.out Tryz.underlying38 rfl (by kernel_rfl) ?_)
     | ((with_reducible show wpList _ _ _ (⟨_,.store 38 _ _,_,_,_,_⟩::_) _ _);refine wpList_store_row rfl 38 _ _ rfl wr.heap.size (arrPr k) rfl rfl 38 _ (Blk.new_at rfl) (by kernel_rfl) rfl (arrPr_all k) ?_;refine wpl_name ?_;intro w4 hw4;have JB:Hid (Blk w4 wr.heap.size 38 (arrPr k)):=(by rw[Hid,hw4];exact blk_row (Blk.new_at rfl) _);have BE4:Hid (Below w.heap.size w w4):=(by rw[Hid,hw4];exact bel_row (BE.out.alloc BE.out.size _) BE.out.size _);clear hw4 BE RG))
    generalize wr.heap.size=gk at*
    have RJ:=qD (pr_full JB.out)
    clear JB
    go_upto_region 7 with(first
     | ((with_reducible show wpList _ _ _ (⟨_,.load 38 _,_,_,_,_⟩::_) _ _);refine wpList_mid_w rfl 38 _ rfl gk 0 rfl _ _ RJ.out Tryz.underlying38 rfl (by kernel_rfl) ?_)
     | (go_at_call 22;refine(IH.out k HM.out _ BE4.out).mono ?_;rintro e w5 ⟨A3,m3,c3,ys,nf,rfl,hy,hnf,hmk,hsi,hb3,hfr⟩;have HY:=qD hy;have HNF:=qD hnf;have HMK:=qD hmk;have HSI:=qD hsi;have BE5:=qD (BE4.out.step' hb3);have HFR:=qD (fun y hy=>(hfr y hy).low BE4.out.size);clear hy hnf hmk hsi hb3 hfr RJ BE4))
    obtain⟨ab,hab⟩:∃b,b=isAllB (ofS l k).1:=⟨_,rfl⟩
    have HIA:=qD (isAll_any ys A3 m3 c3 w5 HSI.out HY.out HNF.out)
    rw[←hab] at HIA
    have HAB:=qD hab
    clear hab
    go_wp2_with fail
    refine HIA.out.mono ?_
    rintro e w6 ⟨rfl,hb⟩
    have BE6:=qD (BE5.out.step' hb)
    have HSI6:=qD (HSI.out.step hb)
    have HFR6:=qD (fun y hy=>(HFR.out y hy).step hb)
    clear hb HIA
    have HFC:Hid (firstS (p.kids.map (ofS l))=if ab then firstS ((p.kids.drop (i+1)).map (ofS l)) else((ofS l k).1,false)):=by
     rw[Hid,HF.out,HX.out,List.map_cons,firstS_cons,HAB.out]
    cases ab
    ·go_wp2_with fail
     go_ret2
     rw[HAND.out,HFC.out]
     exact⟨A3,m3,c3,ys,nf,rfl,HY.out,HNF.out,HMK.out,HSI6.out,BE6.out,HFR6.out⟩
    ·go_wp2_with fail
     go_roundw
     case rel=>exact⟨i+1,by omega,by go_num,(by simpa using HFC.out),BE6.out⟩
     case measure=>simp[intOf];omega
   ·obtain rfl:i=p.kn:=by omega
    have HE:Hid (firstS (p.kids.map (ofS l))=(allS,false)):=by
     rw[Hid,HF.out,List.drop_of_length_le (by have:=HKN.out;omega)]
     rfl
    go_wp2_with fail
    refine(allF_any wr).mono ?_
    rintro e w3 ⟨A3,m3,c3,ys,nf,rfl,hy,hnf,hmk,hsi,hb3,hfr⟩
    have HNO:=qD (show OfOk (allS,false) 1 wr (.returned (.tuple #[.slice A3 m3 c3,.bool false])) w3 from⟨A3,m3,c3,ys,nf,rfl,hy,hnf,hmk,hsi,hb3,hfr⟩)
    clear hy hnf hmk hsi hb3 hfr
    go_wp2_with fail
    go_ret2
    rw[HAND.out,HE.out]
    exact HNO.out.up BE.out HSZ.out
section
variable {w4:World} {l m:List (Cut×Cut)} {i k:Nat} {v:Value} {cs:List PS} {ga:Nat} {u:PS} {wr w':World}
end
theorem rall_any(w:World):Calls Tryz.prog 74 #[] w (NormOk (fun a=>inS cmC a (spansL [allIv])) 1 w):=by
 go_enter Tryz.func74,Tryz.ntmps74
 go_wp2_with fail
 go_ret
 exact⟨_,1,1,[pAll],_,rfl,rfl,all_nf,qL,si_one (Blk.new_at rfl) ⟨rw_min _,rw_max _⟩,(Below.refl _ _).alloc (qL) _⟩
theorem SI.reads{w:World}{A:Option Addr}{n c:Nat}{xs:List PI}(h:SI w A n c xs):Reads w w.heap.size 12 A n (flat recI xs):=by
 refine⟨by rw[flat_length recI_length,h.sr.ln],fun hp=>?_⟩
 obtain⟨b,off,e,hb,hel⟩:=h.sr.el hp
 cases e
 refine⟨_,rfl,hb,fun j u hu=>?_⟩
 have hj:=(List.getElem?_eq_some_iff.1 hu).1
 rw[flat_length recI_length] at hj
 obtain⟨a,v,g1,g2,g3⟩:=flat_at' recI_length (by omega) xs j hj
 have:=hel (j/12) a g1 (j%12) v g2
 rw[addr_add]
 rw[g3] at hu
 cases hu
 rw[show off+j=off+j/12*12+j%12 by omega]
 exact this
structure OrI(l:List ByteArray)(p:PrT)(w:World)(i m:Nat)(v:Value)(b:Bool)(xs:List PI)(wr:World):Prop where
 own:wr.ownsRow w.heap.size 67 12 v m (flat recI xs)
 ln:xs.length=m
 le:m≤PrT.sz.szL (p.kids.take i)
 fr:∀x∈xs,RV (fun b=>w.heap.size≤b∧v.ownBlock≠some b) wr x.1.1.1 x.1.1.2∧RV (fun b=>w.heap.size≤b∧v.ownBlock≠some b) wr x.1.2.1 x.1.2.2
 set:∀a,inS cmC a (spansL (xs.map ivP))↔∃r∈(p.kids.take i).map (ofS l),r.1 a
 no:∀r∈(p.kids.take i).map (ofS l),isAllB r.1=false
 ex:b=((p.kids.take i).map (ofS l)).all fun r=>r.2
 bel:Below w.heap.size w wr
theorem OrI.step{l:List ByteArray}{p:PrT}{w:World}{i m:Nat}{v:Value}{b:Bool}{xs:List PI}{wr w':World}(h:OrI l p w i m v b xs wr)(hb:Below wr.heap.size wr w'):OrI l p w i m v b xs w':=
 ⟨own_step h.own hb,h.ln,h.le,fun x hx=>⟨(h.fr x hx).1.step hb,(h.fr x hx).2.step hb⟩,h.set,h.no,h.ex,h.bel.step' hb⟩
theorem nf_spans{S:Cut→Prop}{ys:List PI}{nf:List (Cut×Cut)}(hy:ys.map ivP=nf.map ivOf)(hn:IsNF S nf)(a:Cut):inS cmC a (spansL (ys.map ivP))↔S a:=by
 rw[hy,spansL_of fun s hs=>hn.1.ne s hs,hn.2 a]
theorem rv_grown0{lo:Nat}{v v':Value}{w3 w4:World}{c:VC}{x:Val}(hr:RV (fun b=>lo≤b∧v.ownBlock≠some b) w3 c x)(hg:w3.grownBy w4 v.ownBlock)(hat:v'.ownBlock=v.ownBlock∨v'.ownBlock=some w3.heap.size):
 RV (fun b=>lo≤b∧v'.ownBlock≠some b) w4 c x:=hr.keepG fun b hb hl=>by
 refine⟨⟨hb.1,fun e=>?_⟩,hg.block b hl (fun e=>hb.2 e.symm)⟩
 rcases hat with h|h
 ·rw[h] at e;exact hb.2 e
 ·rw[h] at e;injection e with e;omega
theorem OrI.next{l:List ByteArray}{p k:PrT}{w:World}{i m m3:Nat}{v v':Value}{b b':Bool}{xs ys:List PI}{nf:List (Cut×Cut)}{w5 w6:World}(h:OrI l p w i m v b xs w5)(hk:p.kids[i]?=some k)(hy:ys.map ivP=nf.map ivOf)(hn:IsNF (ofS l k).1 nf)(h3:ys.length=m3)(hm:m3≤k.sz)(hfr:∀y∈ys,RV (fun b=>w.heap.size≤b∧v.ownBlock≠some b) w5 y.1.1.1 y.1.1.2∧RV (fun b=>w.heap.size≤b∧v.ownBlock≠some b) w5 y.1.2.1 y.1.2.2)(hall:isAllB (ofS l k).1=false)(hb':b'=(b&&(ofS l k).2))(ho:w6.ownsRow w.heap.size 67 12 v' (m+m3) (flat recI xs++flat recI ys))(hg:w5.grownBy w6 v.ownBlock)(hat:v'.ownBlock=v.ownBlock∨v'.ownBlock=some w5.heap.size):OrI l p w (i+1) (m+m3) v' b' (xs++ys) w6:=by
 have tk:p.kids.take (i+1)=p.kids.take i++[k]:=by rw[List.take_add_one,hk];rfl
 refine⟨by rw[flat_append];exact ho,by rw[List.length_append,h.ln,h3],by rw[szL_take _ _ hk];have:=h.le;omega,fun x hx=>?_,fun a=>?_,fun r hr=>?_,?_,h.bel.grown hg h.bel.size (own_ge h.own)⟩
 ·have hx':RV (fun b=>w.heap.size≤b∧v.ownBlock≠some b) w5 x.1.1.1 x.1.1.2∧RV (fun b=>w.heap.size≤b∧v.ownBlock≠some b) w5 x.1.2.1 x.1.2.2:=by
   rcases List.mem_append.1 hx with hx|hx
   ·exact h.fr x hx
   ·exact hfr x hx
  exact⟨rv_grown0 hx'.1 hg hat,rv_grown0 hx'.2 hg hat⟩
 ·rw[List.map_append,spansL_app,inS_app,h.set a,nf_spans hy hn a,tk,List.map_append]
  constructor
  ·rintro(⟨r,hr,ha⟩|ha)
   ·exact⟨r,List.mem_append_left _ hr,ha⟩
   ·exact⟨ofS l k,by simp,ha⟩
  ·rintro⟨r,hr,ha⟩
   rcases List.mem_append.1 hr with hr|hr
   ·exact .inl ⟨r,hr,ha⟩
   ·obtain rfl:r=ofS l k:=by simpa using hr
    exact .inr ha
 ·rw[tk,List.map_append] at hr
  rcases List.mem_append.1 hr with hr|hr
  ·exact h.no r hr
  ·obtain rfl:r=ofS l k:=by simpa using hr
   exact hall
 ·rw[hb',h.ex,tk,List.map_append,List.all_append]
  simp
theorem flatI_oneB(xs:List PI):∀u∈flat recI xs,u.oneCell'=true:=by
 intro u hu
 obtain⟨p,_,h⟩:=List.mem_flatMap.1 hu
 exact recI_one p u h
theorem orS_all{rs:List PSet}{r:PSet}(h:r∈rs)(ha:isAllB r.1=true):orS rs=(allS,false):=by
 unfold orS
 rw[if_pos (List.any_eq_true.2 ⟨r,h,ha⟩)]
theorem orS_none{rs:List PSet}(h:∀r∈rs,isAllB r.1=false):orS rs=(fun a=>∃r∈rs,r.1 a,rs.all fun r=>r.2):=by
 unfold orS
 rw[if_neg]
 intro k
 obtain⟨r,hr,ha⟩:=List.any_eq_true.1 k
 rw[h r hr] at ha
 exact absurd ha (by decide)
theorem ofOr_any(p:PrT)(ih:∀k∈p.kids,OfAt k)(A:Option Addr)(n c:Nat)(l:List ByteArray)(w:World)(hw:WP w p)(hk:∀k∈p.kids,VPr k)(hT:Tabs w)(hl:ST w A n c l)(hz:p.sz≤300000000)(hne:p.kids≠[]):
 Calls Tryz.prog 56 #[aggPr p,.slice A n c] w (OfOk (orS (p.kids.map (ofS l))) p.sz w):=by
 obtain⟨j0,hj0,hy0,hy1,hy2⟩:=info_parts info_interval
 have HT:=qD hT
 have W:=qD hw.open
 have HL:=qD hl
 have IH:Hid (∀k∈p.kids,∀wr,Below w.heap.size w wr→Calls Tryz.prog 22 #[aggPr k,.slice A n c] wr (OfOk (ofS l k) k.sz wr)):=qD fun k hkm wr hb=>by
  have hs:k.sz≤p.sz:=by rw[p.sz_eq];have:=szL_ge hkm;omega
  exact ih k hkm A n c l wr ((W.out.kids k hkm).step hb) (hk k hkm) (HT.out.step hb) (HL.out.step hb) (by omega)
 have hkz:p.kn≤140737488355328:=by have:=W.out.ksz;unfold reach at this;omega
 have HKN:=qD W.out.sr.ln
 have HSZ:Hid (PrT.sz.szL p.kids+1≤p.sz):=by rw[Hid,p.sz_eq];omega
 have HZ:=qD hz
 have hk0:0<p.kn:=by
  have:=W.out.sr.ln
  have h0:0<p.kids.length:=List.length_pos_iff.2 hne
  omega
 clear hw hk hT hl hz ih hne
 have B0:Hid (Blk (w.alloc (.cells (arrPr p) 38)) w.heap.size 38 (arrPr p)):=Blk.new_at rfl
 have BE:=qD ((Below.refl w.heap.size w).alloc (qL) (Obj.cells (arrPr p) 38))
 go_enter Tryz.func56,Tryz.ntmps56
 go_upto_region 1 with fail
 change Code.wp _ _ _ _ (w.alloc (.cells (arrPr p) 38))
 generalize w.alloc (.cells (arrPr p) 38)=wa at*
 obtain⟨_,_,_,_,_,_,_,d24⟩:=pr_cells B0.out
 have h1b:((p.kn:Int)==0)=false:=by simp;omega
 clear hk0
 go_upto_region 6 with fail
 go_loopw [6,7,9,10,11,20] (fun v6 v7 _ _ _ v wr=>∃(i m:Nat) (b:Bool) (xs:List PI),i≤p.kn∧v=.int .i64 i∧v7=.bool b∧OrI l p w i m v6 b xs wr) (fun _ _ _ _ _ v _=>p.kn-(intOf v).toNat)
 case atStart=>
  refine⟨0,0,true,[],Nat.zero_le _,rfl,rfl,own_nil _ _ _ _,rfl,Nat.zero_le _,by simp,fun a=>?_,by simp,rfl,BE.out⟩
  constructor
  ·rintro⟨s,hs,_⟩;simp[spansL] at hs
  ·rintro⟨r,hr,_⟩;simp at hr
 case round=>
  obtain⟨i,m,bx,xs,hi,rfl,rfl,hI⟩:=hrel
  clear B0 BE d24
  have HI:=qD hI
  obtain⟨A6,c6,rfl,hmc⟩:=own_slice hI.own
  have HM:Hid (m+1≤p.sz):=by
   have h1:=hI.le
   have h2:=szL_take_le p.kids i
   have h3:=HSZ.out
   exact qD (by omega)
  clear hI
  by_cases hlt:i<p.kn
  ·obtain⟨b,off,k,hA,hb,hx,hm,hrg⟩:=W.out.sr.row hlt
   have RG:=qD (range_step hrg HI.out.bel hb)
   have HX:=qD hx
   have HMK:=qD hm
   have HMZ:Hid (m+k.sz≤300000000):=by
    have h1:=HI.out.le
    have h2:=szL_take_le p.kids (i+1)
    rw[szL_take _ _ hx] at h2
    have h3:=HSZ.out
    have h4:=HZ.out
    exact qD (by omega)
   have i0:(0:Int)≤(i:Int):=by omega
   have i1:(i:Int)<(p.kn:Int):=by omega
   rw[hA]
   clear hrg hx hm hA
   go_upto_region 8 with(first
    | ((with_reducible show wpList _ _ _ (⟨_,.load 38 _,_,_,_,_⟩::_) _ _);refine wpList_mid_w rfl 38 _ rfl b (off+i*25) rfl _ _ RG.out Tryz.underlying38 rfl (by kernel_rfl) ?_)
    | ((with_reducible show wpList _ _ _ (⟨_,.store 38 _ _,_,_,_,_⟩::_) _ _);refine wpList_store_row rfl 38 _ _ rfl wr.heap.size (arrPr k) rfl rfl 38 _ (Blk.new_at rfl) (by kernel_rfl) rfl (arrPr_all k) ?_;refine wpl_name ?_;intro w4 hw4;have JB:Hid (Blk w4 wr.heap.size 38 (arrPr k)):=(by rw[Hid,hw4];exact blk_row (Blk.new_at rfl) _);have BW4:Hid (Below wr.heap.size wr w4):=(by rw[Hid,hw4];exact bel_row ((Below.refl _ _).alloc (qL) _) (qL) _);clear hw4 RG))
   replace HI:=qD (HI.out.step BW4.out)
   generalize wr.heap.size=gk at*
   have RJ:=qD (pr_full JB.out)
   clear JB BW4
   go_upto_region 9 with(first
    | ((with_reducible show wpList _ _ _ (⟨_,.load 38 _,_,_,_,_⟩::_) _ _);refine wpList_mid_w rfl 38 _ rfl gk 0 rfl _ _ RJ.out Tryz.underlying38 rfl (by kernel_rfl) ?_)
    | (go_at_call 22;refine(IH.out k HMK.out _ HI.out.bel).mono ?_;rintro e w5 ⟨A3,m3,c3,ys,nf,rfl,hy,hnf,hmk,hsi,hb3,hfr⟩;have HY:=qD hy;have HNF:=qD hnf;have HM3:=qD hmk;have HSI:=qD hsi;have HB5:=qD hb3;have HFR:=qD hfr;clear hy hnf hmk hsi hb3 hfr RJ))
   have HOL:Hid (∀g,(Value.slice A6 m c6).ownBlock=some g→g<w4.heap.size):=qD fun g hg=>own_lt HI.out.own hg
   have HW4:Hid (w.heap.size≤w4.heap.size):=qD HI.out.bel.size
   replace HI:=qD (HI.out.step HB5.out)
   obtain⟨ab,hab⟩:∃b,b=isAllB (ofS l k).1:=⟨_,rfl⟩
   have HIA:=qD (isAll_any ys A3 m3 c3 w5 HSI.out HY.out HNF.out)
   rw[←hab] at HIA
   have HAB:=qD hab
   clear hab
   go_wp2_with fail
   refine HIA.out.mono ?_
   rintro e w6 ⟨rfl,hb6⟩
   replace HI:=qD (HI.out.step hb6)
   have HSI6:=qD (HSI.out.step hb6)
   have HFR6:Hid (∀y∈ys,RV (fun b=>w.heap.size≤b∧(Value.slice A6 m c6).ownBlock≠some b) w6 y.1.1.1 y.1.1.2∧RV (fun b=>w.heap.size≤b∧(Value.slice A6 m c6).ownBlock≠some b) w6 y.1.2.1 y.1.2.2):=qD fun y hy=>by
    have key:∀q,w4.heap.size≤q→w.heap.size≤q∧(Value.slice A6 m c6).ownBlock≠some q:=fun q hq=>⟨Nat.le_trans HW4.out hq,fun e=>by have:=HOL.out q e;omega⟩
    exact⟨((HFR.out y hy).1.step hb6).mono key,((HFR.out y hy).2.step hb6).mono key⟩
   clear hb6 HIA HSI HFR HOL HW4 HB5
   cases ab
   ·have hml:ys.length=m3:=HSI6.out.sr.ln.symm
    have HML:=qD hml
    have HRD:=qD HSI6.out.reads
    have hm3:m3≤k.sz:=HM3.out
    have hmz:=HMZ.out
    have z1:m+m3≤maxLen:=by unfold maxLen;omega
    have z2:(m+m3)*168≤140737488355328:=by omega
    clear hml
    cases bx
    all_goals
     go_wp2_with (at_builtin;refine wpList_append_any _ rfl _ _ 63 rfl w.heap.size 67 j0 (aggI (((VC.zero,Val.zero),(VC.zero,Val.zero)),(false,false))) 12 168 Tryz.underlying63 hj0 hy0 hy1 hy2 rfl (by decide) (.slice A6 m c6) m (flat recI xs) rfl HI.out.own _ _ m3 _ (flat recI ys) rfl HRD.out ?c1 z1 z2 HI.out.bel.size ?_)
     case c1=>exact flatI_oneB _
     intro v7 w7 hown hgr hat
    ·have HN:=qD (HI.out.next (b':=false) HX.out HY.out HNF.out HML.out hm3 HFR6.out HAB.out.symm (Bool.false_and _).symm hown hgr hat)
     clear hown hgr hat
     go_wp2_with fail
     go_roundw
     case rel=>exact⟨i+1,m+m3,_,_,by omega,by go_num,rfl,HN.out⟩
     case measure=>simp[intOf];omega
    ·have HN:=qD (HI.out.next (b':=(ofS l k).2) HX.out HY.out HNF.out HML.out hm3 HFR6.out HAB.out.symm (Bool.true_and _).symm hown hgr hat)
     clear hown hgr hat
     go_wp2_with fail
     go_roundw
     case rel=>exact⟨i+1,m+m3,_,_,by omega,by go_num,rfl,HN.out⟩
     case measure=>simp[intOf];omega
   ·have HE:Hid (orS (p.kids.map (ofS l))=(allS,false)):=qD (orS_all (List.mem_map_of_mem HMK.out) HAB.out.symm)
    go_wp2_with fail
    refine(allF_any w6).mono ?_
    rintro e w3 ⟨A9,m9,c9,zs,nf9,rfl,hy,hnf,hmk,hsi,hb3,hfr⟩
    have HNO:=qD (show OfOk (allS,false) 1 w6 (.returned (.tuple #[.slice A9 m9 c9,.bool false])) w3 from⟨A9,m9,c9,zs,nf9,rfl,hy,hnf,hmk,hsi,hb3,hfr⟩)
    clear hy hnf hmk hsi hb3 hfr
    go_wp2_with fail
    go_ret2
    rw[HE.out]
    exact HNO.out.up HI.out.bel (by have:=HSZ.out;omega)
  ·obtain rfl:i=p.kn:=by omega
   have HTK:p.kids.take p.kn=p.kids:=List.take_of_length_le (by have:=HKN.out;omega)
   have HE:Hid (orS (p.kids.map (ofS l))=(fun a=>inS cmC a (spansL (xs.map ivP)),bx)):=by
    have h1:=HI.out.no
    have h2:=HI.out.set
    have h3:=HI.out.ex
    rw[HTK] at h1 h2 h3
    rw[Hid,orS_none h1,←h3]
    exact congrArg (fun s=>(s,bx)) (funext fun a=>propext (h2 a).symm)
   obtain⟨A7,c7,e7,hs7⟩:=SI.of_own HI.out.own HI.out.ln (by have h4:=HZ.out;have h5:=HM.out;unfold reach;omega) (fun x hx=>⟨(HI.out.fr x hx).1.mono fun _ _=>trivial,(HI.out.fr x hx).2.mono fun _ _=>trivial⟩)
   injection e7 with e7a _ e7c
   subst e7a e7c
   have HSI:=qD hs7
   have HMZ:Hid (m≤1000000000):=qD (by have h4:=HZ.out;have h5:=HM.out;omega)
   have BE:=qD HI.out.bel
   clear hs7 HI HTK
   go_wp2_with fail
   refine(normalF_any xs _ m _ wr (HT.out.step BE.out) HSI.out HMZ.out).mono ?_
   rintro e w3 ⟨A9,m9,c9,zs,nf9,rfl,hy,hnf,hmk,hsi,hb3,hfr⟩
   have HNO:=qD (show OfOk (fun a=>inS cmC a (spansL (xs.map ivP)),bx) m wr (.returned (.tuple #[.slice A9 m9 c9,.bool bx])) w3 from⟨A9,m9,c9,zs,nf9,rfl,hy,hnf,hmk,hsi,hb3,hfr⟩)
   clear hy hnf hmk hsi hb3 hfr
   go_wp2_with fail
   go_ret2
   rw[HE.out]
   exact HNO.out.up BE.out (by have:=HM.out;omega)
theorem kindRange6(w:World):Calls Tryz.prog 60 #[.int .i64 6] w fun e w'=>e=.returned (.tuple #[aggI zI,.bool false])∧Below w.heap.size w w':=by
 go_enter Tryz.func60,Tryz.ntmps60
 have B0:Hid (Blk ((w.alloc (.cells (arrI zI) 67)).alloc (.cells (arrI (((cLf 6 0 ByteArray.empty,vKd 6),(cLf 6 0 ByteArray.empty,vKd 6)),(true,true))) 67)) w.heap.size 67 (arrI zI)):=(Blk.new_at rfl).alloc _
 have BE:Hid (Below w.heap.size w ((w.alloc (.cells (arrI zI) 67)).alloc (.cells (arrI (((cLf 6 0 ByteArray.empty,vKd 6),(cLf 6 0 ByteArray.empty,vKd 6)),(true,true))) 67))):=((Below.refl _ _).alloc (qL) _).alloc (by simp) _
 go_upto_region 2 with fail
 change Code.wp _ _ _ _ ((w.alloc (.cells (arrI zI) 67)).alloc (.cells (arrI (((cLf 6 0 ByteArray.empty,vKd 6),(cLf 6 0 ByteArray.empty,vKd 6)),(true,true))) 67))
 generalize ((w.alloc (.cells (arrI zI) 67)).alloc (.cells (arrI (((cLf 6 0 ByteArray.empty,vKd 6),(cLf 6 0 ByteArray.empty,vKd 6)),(true,true))) 67))=wa at*
 have hmk:=make12 wa
 have hcv:=conv12 wa
 go_upto_region 3 with fail
 change Code.wp _ _ _ _ ((wa.alloc (.cells twelve0 5)).alloc (.cells (cLf 8 0 zero12).arr 29))
 replace B0:=qD ((B0.out.alloc (.cells twelve0 5)).alloc (.cells (cLf 8 0 zero12).arr 29))
 replace BE:=qD ((BE.out.alloc BE.out.size (.cells twelve0 5)).alloc (by have:=BE.out.size;simp;omega) (Obj.cells (cLf 8 0 zero12).arr 29))
 clear hmk hcv
 generalize ((wa.alloc (.cells twelve0 5)).alloc (.cells (cLf 8 0 zero12).arr 29))=wb at*
 have HALL:Hid ((arrI zI).all (·.oneCell')=true):=by rw[Hid];simp[Value.oneCell']
 go_wp2_with ((with_reducible show wpList _ _ _ (⟨_,.store 67 _ _,_,_,_,_⟩::_) _ _);refine wpList_store_row rfl 67 _ _ rfl w.heap.size (arrI zI) rfl rfl 67 _ B0.out (by kernel_rfl) rfl HALL.out ?_)
 exact bodyPost_ret (results_ivb rfl _ _ rfl _ rfl _ (arrI zI) rfl (blk_row B0.out (arrI zI))) rfl ⟨rfl,bel_row BE.out (qL) _⟩
theorem of_and(p:PrT)(ih:∀k∈p.kids,OfAt k)(h:p.op=20):OfAt p:=by
 intro A n c l w hw hv hT hl hz
 rw[ofS_and h]
 have HA:Hid (∀wr,Below w.heap.size w wr→Calls Tryz.prog 55 #[aggPr p,.slice A n c] wr (OfOk (andS (p.kids.map (ofS l))) p.sz wr)):=qD fun wr hb=>ofAnd_any p ih A n c l wr (hw.step hb) (hv.open.kids (.inl h)) (hT.step hb) (hl.step hb) hz
 clear hw hv hT hl hz ih
 obtain⟨r,hr⟩:∃r,r=andS (p.kids.map (ofS l)):=⟨_,rfl⟩
 rw[←hr] at HA ⊢
 clear hr
 have B0:Hid (Blk (w.alloc (.cells (arrPr p) 38)) w.heap.size 38 (arrPr p)):=Blk.new_at rfl
 have BE:=qD ((Below.refl w.heap.size w).alloc (qL) (Obj.cells (arrPr p) 38))
 go_enter Tryz.func22,Tryz.ntmps22
 go_upto_region 1 with fail
 change Code.wp _ _ _ _ (w.alloc (.cells (arrPr p) 38))
 generalize w.alloc (.cells (arrPr p) 38)=wa at*
 obtain⟨d0,d1,_,_,_,_,_,_⟩:=pr_cells B0.out
 rw[h] at d0
 have RG:=qD (pr_full B0.out)
 go_wp2_with ((with_reducible show wpList _ _ _ (⟨_,.load 38 _,_,_,_,_⟩::_) _ _);refine wpList_mid_w rfl 38 _ rfl w.heap.size 0 rfl _ _ RG.out Tryz.underlying38 rfl (by kernel_rfl) ?_)
 refine(HA.out _ BE.out).mono ?_
 rintro e w1 ⟨A3,m3,c3,ys,nf,rfl,hy,hnf,hmk,hsi,hb3,hfr⟩
 have HNO:=qD (show OfOk r p.sz wa (.returned (.tuple #[.slice A3 m3 c3,.bool r.2])) w1 from⟨A3,m3,c3,ys,nf,rfl,hy,hnf,hmk,hsi,hb3,hfr⟩)
 clear hy hnf hmk hsi hb3 hfr
 go_wp2_with fail
 go_ret2
 exact HNO.out.up BE.out (qL)
theorem of_or(p:PrT)(ih:∀k∈p.kids,OfAt k)(h:p.op=21):OfAt p:=by
 intro A n c l w hw hv hT hl hz
 rw[ofS_or h]
 have HA:Hid (∀wr,Below w.heap.size w wr→Calls Tryz.prog 56 #[aggPr p,.slice A n c] wr (OfOk (orS (p.kids.map (ofS l))) p.sz wr)):=qD fun wr hb=>ofOr_any p ih A n c l wr (hw.step hb) (hv.open.kids (.inr h)) (hT.step hb) (hl.step hb) hz (hv.open.ne (.inr h))
 clear hw hv hT hl hz ih
 obtain⟨r,hr⟩:∃r,r=orS (p.kids.map (ofS l)):=⟨_,rfl⟩
 rw[←hr] at HA ⊢
 clear hr
 have B0:Hid (Blk (w.alloc (.cells (arrPr p) 38)) w.heap.size 38 (arrPr p)):=Blk.new_at rfl
 have BE:=qD ((Below.refl w.heap.size w).alloc (qL) (Obj.cells (arrPr p) 38))
 go_enter Tryz.func22,Tryz.ntmps22
 go_upto_region 1 with fail
 change Code.wp _ _ _ _ (w.alloc (.cells (arrPr p) 38))
 generalize w.alloc (.cells (arrPr p) 38)=wa at*
 obtain⟨d0,d1,_,_,_,_,_,_⟩:=pr_cells B0.out
 rw[h] at d0
 have RG:=qD (pr_full B0.out)
 go_wp2_with ((with_reducible show wpList _ _ _ (⟨_,.load 38 _,_,_,_,_⟩::_) _ _);refine wpList_mid_w rfl 38 _ rfl w.heap.size 0 rfl _ _ RG.out Tryz.underlying38 rfl (by kernel_rfl) ?_)
 refine(HA.out _ BE.out).mono ?_
 rintro e w1 ⟨A3,m3,c3,ys,nf,rfl,hy,hnf,hmk,hsi,hb3,hfr⟩
 have HNO:=qD (show OfOk r p.sz wa (.returned (.tuple #[.slice A3 m3 c3,.bool r.2])) w1 from⟨A3,m3,c3,ys,nf,rfl,hy,hnf,hmk,hsi,hb3,hfr⟩)
 clear hy hnf hmk hsi hb3 hfr
 go_wp2_with fail
 go_ret2
 exact HNO.out.up BE.out (qL)
theorem sameP_iff{l m:List ByteArray}:sameP l m=true↔l=m:=by
 induction l generalizing m with
 | nil=>cases m<;>simp[sameP]
 | cons x r ih=>
  cases m with
  | nil=>simp[sameP]
  | cons y s=>
   rw[sameP,Bool.and_eq_true,ih,List.cons.injEq,beq_iff_eq]
   constructor
   ·rintro⟨h1,h2⟩
    exact⟨ByteArray.ext (Array.toList_inj.1 (by rw[Go.ByteArray.toList_eq,Go.ByteArray.toList_eq] at h1;exact h1)),h2⟩
   ·rintro⟨rfl,rfl⟩
    exact⟨rfl,rfl⟩
theorem of_else(p:PrT)(h:p.op≠20)(h':p.op≠21)(A:Option Addr)(n c:Nat)(l:List ByteArray)(w:World)(hw:WP w p)(hl:ST w A n c l)(hp:p.path.xs≠l):
 Calls Tryz.prog 22 #[aggPr p,.slice A n c] w (OfOk (allS,false) p.sz w):=by
 have HE:Hid (∀wr,Below w.heap.size w wr→Calls Tryz.prog 57 #[.slice p.path.A p.path.n p.path.c,.slice A n c] wr fun e w'=>e=.returned (.bool (sameP p.path.xs l))∧Below wr.heap.size wr w'):=qD fun wr hb=>equal_any p.path.xs l p.path.A A p.path.n p.path.c n c wr (hw.open.path.step hb) (hl.step hb)
 have hs:sameP p.path.xs l=false:=by
  rw[←Bool.not_eq_true,sameP_iff]
  exact hp
 rw[hs] at HE
 have HSZ:Hid (1≤p.sz):=by rw[Hid,p.sz_eq];omega
 clear hw hl hs hp
 have B0:Hid (Blk (w.alloc (.cells (arrPr p) 38)) w.heap.size 38 (arrPr p)):=Blk.new_at rfl
 have BE:=qD ((Below.refl w.heap.size w).alloc (qL) (Obj.cells (arrPr p) 38))
 go_enter Tryz.func22,Tryz.ntmps22
 go_upto_region 1 with fail
 change Code.wp _ _ _ _ (w.alloc (.cells (arrPr p) 38))
 generalize w.alloc (.cells (arrPr p) 38)=wa at*
 obtain⟨d0,d1,_,_,_,_,_,_⟩:=pr_cells B0.out
 have g20:(p.op==20)=false:=by simpa using h
 have g21:(p.op==21)=false:=by simpa using h'
 clear h h'
 go_wp2_with fail
 refine(HE.out _ BE.out).mono ?_
 rintro e w1 ⟨rfl,hb⟩
 replace BE:=qD (BE.out.step' hb)
 clear hb d0 d1 HE B0
 go_wp2_with fail
 refine(allF_any _).mono ?_
 rintro e w2 ⟨A3,m3,c3,ys,nf,rfl,hy,hnf,hmk,hsi,hb3,hfr⟩
 have HNO:=qD (show OfOk (allS,false) 1 w1 (.returned (.tuple #[.slice A3 m3 c3,.bool false])) w2 from⟨A3,m3,c3,ys,nf,rfl,hy,hnf,hmk,hsi,hb3,hfr⟩)
 clear hy hnf hmk hsi hb3 hfr
 go_wp2_with fail
 go_ret2
 exact HNO.out.up BE.out HSZ.out
theorem of_in(p:PrT)(h:p.op=8)(A:Option Addr)(n c:Nat)(l:List ByteArray)(w:World)(hw:WP w p)(hl:ST w A n c l)(hp:p.path.xs=l)(r:PSet)(hr:∀wr,Below w.heap.size w wr→Calls Tryz.prog 63 #[aggPr p] wr (OfOk r p.sz wr)):
 Calls Tryz.prog 22 #[aggPr p,.slice A n c] w (OfOk r p.sz w):=by
 have HE:Hid (∀wr,Below w.heap.size w wr→Calls Tryz.prog 57 #[.slice p.path.A p.path.n p.path.c,.slice A n c] wr fun e w'=>e=.returned (.bool (sameP p.path.xs l))∧Below wr.heap.size wr w'):=qD fun wr hb=>equal_any p.path.xs l p.path.A A p.path.n p.path.c n c wr (hw.open.path.step hb) (hl.step hb)
 rw[sameP_iff.2 hp] at HE
 have HA:=qD hr
 clear hw hl hp hr
 have B0:Hid (Blk (w.alloc (.cells (arrPr p) 38)) w.heap.size 38 (arrPr p)):=Blk.new_at rfl
 have BE:=qD ((Below.refl w.heap.size w).alloc (qL) (Obj.cells (arrPr p) 38))
 go_enter Tryz.func22,Tryz.ntmps22
 go_upto_region 1 with fail
 change Code.wp _ _ _ _ (w.alloc (.cells (arrPr p) 38))
 generalize w.alloc (.cells (arrPr p) 38)=wa at*
 obtain⟨d0,d1,_,_,_,_,_,_⟩:=pr_cells B0.out
 rw[h] at d0
 go_wp2_with fail
 refine(HE.out _ BE.out).mono ?_
 rintro e w1 ⟨rfl,hb⟩
 replace BE:=qD (BE.out.step' hb)
 replace B0:=qD (B0.out.step hb)
 clear hb d0 d1 HE
 obtain⟨d0,_,_,_,_,_,_,_⟩:=pr_cells B0.out
 rw[h] at d0
 have RG:=qD (pr_full B0.out)
 go_wp2_with ((with_reducible show wpList _ _ _ (⟨_,.load 38 _,_,_,_,_⟩::_) _ _);refine wpList_mid_w rfl 38 _ rfl w.heap.size 0 rfl _ _ RG.out Tryz.underlying38 rfl (by kernel_rfl) ?_)
 refine(HA.out _ BE.out).mono ?_
 rintro e w2 ⟨A3,m3,c3,ys,nf,rfl,hy,hnf,hmk,hsi,hb3,hfr⟩
 have HNO:=qD (show OfOk r p.sz w1 (.returned (.tuple #[.slice A3 m3 c3,.bool r.2])) w2 from⟨A3,m3,c3,ys,nf,rfl,hy,hnf,hmk,hsi,hb3,hfr⟩)
 clear hy hnf hmk hsi hb3 hfr
 go_wp2_with fail
 go_ret2
 exact HNO.out.up BE.out (qL)
theorem of_pre(p:PrT)(h:p.op=16)(A:Option Addr)(n c:Nat)(l:List ByteArray)(w:World)(hw:WP w p)(hl:ST w A n c l)(hp:p.path.xs=l)(r:PSet)(hr:∀wr,Below w.heap.size w wr→Calls Tryz.prog 64 #[aggPr p] wr (OfOk r p.sz wr)):
 Calls Tryz.prog 22 #[aggPr p,.slice A n c] w (OfOk r p.sz w):=by
 have HE:Hid (∀wr,Below w.heap.size w wr→Calls Tryz.prog 57 #[.slice p.path.A p.path.n p.path.c,.slice A n c] wr fun e w'=>e=.returned (.bool (sameP p.path.xs l))∧Below wr.heap.size wr w'):=qD fun wr hb=>equal_any p.path.xs l p.path.A A p.path.n p.path.c n c wr (hw.open.path.step hb) (hl.step hb)
 rw[sameP_iff.2 hp] at HE
 have HA:=qD hr
 clear hw hl hp hr
 have B0:Hid (Blk (w.alloc (.cells (arrPr p) 38)) w.heap.size 38 (arrPr p)):=Blk.new_at rfl
 have BE:=qD ((Below.refl w.heap.size w).alloc (qL) (Obj.cells (arrPr p) 38))
 go_enter Tryz.func22,Tryz.ntmps22
 go_upto_region 1 with fail
 change Code.wp _ _ _ _ (w.alloc (.cells (arrPr p) 38))
 generalize w.alloc (.cells (arrPr p) 38)=wa at*
 obtain⟨d0,d1,_,_,_,_,_,_⟩:=pr_cells B0.out
 rw[h] at d0
 go_wp2_with fail
 refine(HE.out _ BE.out).mono ?_
 rintro e w1 ⟨rfl,hb⟩
 replace BE:=qD (BE.out.step' hb)
 replace B0:=qD (B0.out.step hb)
 clear hb d0 d1 HE
 obtain⟨d0,_,_,_,_,_,_,_⟩:=pr_cells B0.out
 rw[h] at d0
 have RG:=qD (pr_full B0.out)
 go_wp2_with ((with_reducible show wpList _ _ _ (⟨_,.load 38 _,_,_,_,_⟩::_) _ _);refine wpList_mid_w rfl 38 _ rfl w.heap.size 0 rfl _ _ RG.out Tryz.underlying38 rfl (by kernel_rfl) ?_)
 refine(HA.out _ BE.out).mono ?_
 rintro e w2 ⟨A3,m3,c3,ys,nf,rfl,hy,hnf,hmk,hsi,hb3,hfr⟩
 have HNO:=qD (show OfOk r p.sz w1 (.returned (.tuple #[.slice A3 m3 c3,.bool r.2])) w2 from⟨A3,m3,c3,ys,nf,rfl,hy,hnf,hmk,hsi,hb3,hfr⟩)
 clear hy hnf hmk hsi hb3 hfr
 go_wp2_with fail
 go_ret2
 exact HNO.out.up BE.out (qL)
theorem of_other(p:PrT)(h:p.op≠20∧p.op≠21∧p.op≠2∧p.op≠4∧p.op≠5∧p.op≠6∧p.op≠7∧p.op≠8∧p.op≠16∧p.op≠11)(A:Option Addr)(n c:Nat)(l:List ByteArray)(w:World)(hw:WP w p)(hl:ST w A n c l)(hp:p.path.xs=l):
 Calls Tryz.prog 22 #[aggPr p,.slice A n c] w (OfOk (allS,false) p.sz w):=by
 have HE:Hid (∀wr,Below w.heap.size w wr→Calls Tryz.prog 57 #[.slice p.path.A p.path.n p.path.c,.slice A n c] wr fun e w'=>e=.returned (.bool (sameP p.path.xs l))∧Below wr.heap.size wr w'):=qD fun wr hb=>equal_any p.path.xs l p.path.A A p.path.n p.path.c n c wr (hw.open.path.step hb) (hl.step hb)
 rw[sameP_iff.2 hp] at HE
 have HSZ:Hid (1≤p.sz):=by rw[Hid,p.sz_eq];omega
 clear hw hl hp
 have B0:Hid (Blk (w.alloc (.cells (arrPr p) 38)) w.heap.size 38 (arrPr p)):=Blk.new_at rfl
 have BE:=qD ((Below.refl w.heap.size w).alloc (qL) (Obj.cells (arrPr p) 38))
 go_enter Tryz.func22,Tryz.ntmps22
 go_upto_region 1 with fail
 change Code.wp _ _ _ _ (w.alloc (.cells (arrPr p) 38))
 generalize w.alloc (.cells (arrPr p) 38)=wa at*
 obtain⟨d0,d1,_,_,_,_,_,_⟩:=pr_cells B0.out
 obtain⟨h1,h2,h3,h4,h5,h6,h7,h8,h9,h10⟩:=h
 have g1:(p.op==20)=false:=by simpa using h1
 have g2:(p.op==21)=false:=by simpa using h2
 have g3:(p.op==2)=false:=by simpa using h3
 have g4:(p.op==4)=false:=by simpa using h4
 have g5:(p.op==5)=false:=by simpa using h5
 have g6:(p.op==6)=false:=by simpa using h6
 have g7:(p.op==7)=false:=by simpa using h7
 have g8:(p.op==8)=false:=by simpa using h8
 have g9:(p.op==16)=false:=by simpa using h9
 have g10:(p.op==11)=false:=by simpa using h10
 clear h1 h2 h3 h4 h5 h6 h7 h8 h9 h10
 go_wp2_with fail
 refine(HE.out _ BE.out).mono ?_
 rintro e w1 ⟨rfl,hb⟩
 replace BE:=qD (BE.out.step' hb)
 replace B0:=qD (B0.out.step hb)
 clear hb d0 d1 HE
 obtain⟨d0,_,_,_,_,_,_,_⟩:=pr_cells B0.out
 go_wp2_with fail
 refine(allF_any _).mono ?_
 rintro e w2 ⟨A3,m3,c3,ys,nf,rfl,hy,hnf,hmk,hsi,hb3,hfr⟩
 have HNO:=qD (show OfOk (allS,false) 1 w1 (.returned (.tuple #[.slice A3 m3 c3,.bool false])) w2 from⟨A3,m3,c3,ys,nf,rfl,hy,hnf,hmk,hsi,hb3,hfr⟩)
 clear hy hnf hmk hsi hb3 hfr
 go_wp2_with fail
 go_ret2
 exact HNO.out.up BE.out HSZ.out
theorem of_eqv(p:PrT)(h:p.op=2)(A:Option Addr)(n c:Nat)(l:List ByteArray)(w:World)(hw:WP w p)(hT:Tabs w)(hl:ST w A n c l)(hp:p.path.xs=l):
 Calls Tryz.prog 22 #[aggPr p,.slice A n c] w (OfOk (leafS 2 p.arg.2 (p.args.xs.map Prod.snd) p.n) p.sz w):=by
 have HE:Hid (∀wr,Below w.heap.size w wr→Calls Tryz.prog 57 #[.slice p.path.A p.path.n p.path.c,.slice A n c] wr fun e w'=>e=.returned (.bool (sameP p.path.xs l))∧Below wr.heap.size wr w'):=qD fun wr hb=>equal_any p.path.xs l p.path.A A p.path.n p.path.c n c wr (hw.open.path.step hb) (hl.step hb)
 rw[sameP_iff.2 hp] at HE
 have HT:=qD hT
 have HSZ:Hid (1≤p.sz):=by rw[Hid,p.sz_eq];omega
 have HX:=qD hw.open.arg
 have HK:Hid (p.arg.1.k=p.arg.2.k):=qD hw.open.arg.open.k
 clear hw hT hl hp
 have B0:Hid (Blk (w.alloc (.cells (arrPr p) 38)) w.heap.size 38 (arrPr p)):=Blk.new_at rfl
 have BE:=qD ((Below.refl w.heap.size w).alloc (qL) (Obj.cells (arrPr p) 38))
 go_enter Tryz.func22,Tryz.ntmps22
 go_upto_region 1 with fail
 change Code.wp _ _ _ _ (w.alloc (.cells (arrPr p) 38))
 generalize w.alloc (.cells (arrPr p) 38)=wa at*
 obtain⟨d0,d1,_,_,_,_,_,_⟩:=pr_cells B0.out
 rw[h] at d0
 go_wp2_with fail
 refine(HE.out _ BE.out).mono ?_
 rintro e w1 ⟨rfl,hb⟩
 replace BE:=qD (BE.out.step' hb)
 replace B0:=qD (B0.out.step hb)
 clear hb d0 d1 HE
 obtain⟨d0,_,_,_,_,_,_,_⟩:=pr_cells B0.out
 rw[h] at d0
 clear h
 have f2:=(range_parg B0.out) 0 _ rfl
 have f3:=(range_parg B0.out) 1 _ rfl
 have f4:=(range_parg B0.out) 2 _ rfl
 have f5:=(range_parg B0.out) 3 _ rfl
 have f6:=(range_parg B0.out) 4 _ rfl
 simp only[Nat.reduceAdd] at f2 f3 f4 f5 f6
 by_cases h6:p.arg.1.k=6
 ·have HL:Hid (leafS 2 p.arg.2 (p.args.xs.map Prod.snd) p.n=(allS,false)):=qD (leafS_none (leafI_eq6 (by rw[←HK.out];exact h6)))
  have k6:(p.arg.1.k != 6)=false:=by simpa using h6
  clear h6
  go_wp2_with fail
  refine(allF_any _).mono ?_
  rintro e w2 ⟨A3,m3,c3,ys,nf,rfl,hy,hnf,hmk,hsi,hb3,hfr⟩
  have HNO:=qD (show OfOk (allS,false) 1 w1 (.returned (.tuple #[.slice A3 m3 c3,.bool false])) w2 from⟨A3,m3,c3,ys,nf,rfl,hy,hnf,hmk,hsi,hb3,hfr⟩)
  clear hy hnf hmk hsi hb3 hfr
  go_wp2_with fail
  go_ret2
  rw[HL.out]
  exact HNO.out.up BE.out HSZ.out
 ·have HL:Hid (leafS 2 p.arg.2 (p.args.xs.map Prod.snd) p.n=((fun a=>inS cmC a (spansL ([p.arg].map fun q=>ptIv q.2))),decide (p.arg.2.k≠2))):=by
   rw[Hid,leafS_some (leafI_eq (by rw[←HK.out];exact h6))]
   rfl
  have k6:(p.arg.1.k != 6)=true:=by simpa using h6
  clear h6
  obtain⟨b2,hb2⟩:∃b,b=decide (p.arg.2.k≠2):=⟨_,rfl⟩
  rw[←hb2] at HL
  have k2:(p.arg.1.k != 2)=b2:=by rw[hb2,HK.out,Bool.eq_iff_iff];simp
  clear hb2
  go_upto_region 11 with fail
  have B:=qD ((Below.refl w1.heap.size w1).drewN 1)
  have KS:Hid (∀w',Below w1.heap.size w1 w'→w'.cell? ⟨w.heap.size,2,none⟩=some (.int .i64 p.arg.1.k)∧w'.cell? ⟨w.heap.size,3,none⟩=some (.int .i64 p.arg.1.n)∧w'.cell? ⟨w.heap.size,4,none⟩=some (.string p.arg.1.t)∧w'.cell? ⟨w.heap.size,5,none⟩=some (.slice p.arg.1.LA p.arg.1.ln p.arg.1.lc)∧w'.cell? ⟨w.heap.size,6,none⟩=some (.slice p.arg.1.DA p.arg.1.dn p.arg.1.dc)):=qD fun w' hb=>⟨(hb.cell (p:=⟨w.heap.size,2,none⟩) B0.out.lt).trans f2,(hb.cell (p:=⟨w.heap.size,3,none⟩) B0.out.lt).trans f3,(hb.cell (p:=⟨w.heap.size,4,none⟩) B0.out.lt).trans f4,(hb.cell (p:=⟨w.heap.size,5,none⟩) B0.out.lt).trans f5,(hb.cell (p:=⟨w.heap.size,6,none⟩) B0.out.lt).trans f6⟩
  clear f2 f3 f4 f5 f6 d0
  go_region_held3 (fun w'=>w'.cell? ⟨w.heap.size,2,none⟩=some (.int .i64 p.arg.1.k)∧w'.cell? ⟨w.heap.size,3,none⟩=some (.int .i64 p.arg.1.n)∧w'.cell? ⟨w.heap.size,4,none⟩=some (.string p.arg.1.t)∧w'.cell? ⟨w.heap.size,5,none⟩=some (.slice p.arg.1.LA p.arg.1.ln p.arg.1.lc)∧w'.cell? ⟨w.heap.size,6,none⟩=some (.slice p.arg.1.DA p.arg.1.dn p.arg.1.dc))
   (first|exact KS.out _ B.out|exact KS.out _ (B.out.alloc B.out.size _)|((try dsimp only);assumption)|go_keep)
   ((go_at_call 59;refine(pointsF_any [p.arg] _ 1 1 _ (HT.out.step (BE.out.step' (B.out.alloc B.out.size _))) (sl_one (Blk.new_at rfl) (HX.out.step (BE.out.step' (B.out.alloc B.out.size _)))) (by omega)).mono ?_;rintro e3 w3 ⟨A3,m3,c3,ys,nf,rfl,hy,hnf,hmk,hsi,hb3,hfr⟩;have HNO:=qD (show OfOk ((fun a=>inS cmC a (spansL ([p.arg].map fun q=>ptIv q.2))),b2) 1 _ (.returned (.tuple #[.slice A3 m3 c3,.bool b2])) w3 from⟨A3,m3,c3,ys,nf,rfl,hy,hnf,hmk,hsi,hb3,hfr⟩);replace HNO:=qD (HNO.out.up (B.out.alloc B.out.size _) (qL));replace B:=qD ((B.out.alloc B.out.size _).step' hb3);clear hy hnf hmk hsi hb3 hfr))
  all_goals
   go_wp2_with fail
   go_ret2
   rw[HL.out]
   exact HNO.out.up BE.out HSZ.out
theorem of_kind(p:PrT)(h:p.op=11)(hn:1≤p.n∧p.n≤11)(A:Option Addr)(n c:Nat)(l:List ByteArray)(w:World)(hw:WP w p)(hT:Tabs w)(hl:ST w A n c l)(hp:p.path.xs=l):
 Calls Tryz.prog 22 #[aggPr p,.slice A n c] w (OfOk (leafS 11 p.arg.2 (p.args.xs.map Prod.snd) p.n) p.sz w):=by
 have HE:Hid (∀wr,Below w.heap.size w wr→Calls Tryz.prog 57 #[.slice p.path.A p.path.n p.path.c,.slice A n c] wr fun e w'=>e=.returned (.bool (sameP p.path.xs l))∧Below wr.heap.size wr w'):=qD fun wr hb=>equal_any p.path.xs l p.path.A A p.path.n p.path.c n c wr (hw.open.path.step hb) (hl.step hb)
 rw[sameP_iff.2 hp] at HE
 have HT:=qD hT
 have HSZ:Hid (1≤p.sz):=by rw[Hid,p.sz_eq];omega
 have HN:=qD hn
 clear hw hT hl hp hn
 have B0:Hid (Blk (w.alloc (.cells (arrPr p) 38)) w.heap.size 38 (arrPr p)):=Blk.new_at rfl
 have BE:=qD ((Below.refl w.heap.size w).alloc (qL) (Obj.cells (arrPr p) 38))
 go_enter Tryz.func22,Tryz.ntmps22
 go_upto_region 1 with fail
 change Code.wp _ _ _ _ (w.alloc (.cells (arrPr p) 38))
 generalize w.alloc (.cells (arrPr p) 38)=wa at*
 obtain⟨d0,d1,_,_,_,_,_,_⟩:=pr_cells B0.out
 rw[h] at d0
 go_wp2_with fail
 refine(HE.out _ BE.out).mono ?_
 rintro e w1 ⟨rfl,hb⟩
 replace BE:=qD (BE.out.step' hb)
 replace B0:=qD (B0.out.step hb)
 clear hb d0 d1 HE
 obtain⟨d0,_,_,_,_,d8,_,_⟩:=pr_cells B0.out
 rw[h] at d0
 clear h
 by_cases h6:p.n=6
 ·have HL:Hid (leafS 11 p.arg.2 (p.args.xs.map Prod.snd) p.n=(allS,false)):=qD (leafS_none (by rw[h6];exact leafI_kind6))
  rw[h6] at d8
  clear h6
  go_wp2_with fail
  refine(kindRange6 w1).mono ?_
  rintro e w2 ⟨rfl,hb⟩
  replace BE:=qD (BE.out.step' hb)
  clear hb B0 d0 d8
  go_upto_region 25 with fail
  change Code.wp _ _ _ _ (w2.alloc (.cells (arrI zI) 67))
  replace BE:=qD (BE.out.alloc BE.out.size (Obj.cells (arrI zI) 67))
  generalize w2.alloc (.cells (arrI zI) 67)=w3 at*
  go_wp2_with fail
  refine(allF_any _).mono ?_
  rintro e w4 ⟨A3,m3,c3,ys,nf,rfl,hy,hnf,hmk,hsi,hb3,hfr⟩
  have HNO:=qD (show OfOk (allS,false) 1 w3 (.returned (.tuple #[.slice A3 m3 c3,.bool false])) w4 from⟨A3,m3,c3,ys,nf,rfl,hy,hnf,hmk,hsi,hb3,hfr⟩)
  clear hy hnf hmk hsi hb3 hfr
  go_wp2_with fail
  go_ret2
  rw[HL.out]
  exact HNO.out.up BE.out HSZ.out
 ·have HL:Hid (leafS 11 p.arg.2 (p.args.xs.map Prod.snd) p.n=((fun a=>inS cmC a (spansL ([rngP p.n].map ivP))),decide (p.n≠2))):=by
   rw[Hid,leafS_some (leafI_kind h6),List.map_singleton,rngP_iv HN.out h6]
  have KR:=qD (kindRange_any p.n w1 HN.out h6)
  clear h6
  obtain⟨b2,hb2⟩:∃b,b=decide (p.n≠2):=⟨_,rfl⟩
  rw[←hb2] at HL
  have k2:(p.n != 2)=b2:=by rw[hb2,Bool.eq_iff_iff];simp
  clear hb2
  have HQ:Hid (∀wq:World,okI wq (rngP p.n)):=qD fun wq=>rngP_ok p.n wq
  go_wp2_with fail
  refine KR.out.mono ?_
  obtain⟨q,hq⟩:∃q,q=rngP p.n:=⟨_,rfl⟩
  rw[←hq] at HL HQ
  rintro e w2 ⟨rfl,hb⟩
  rw[←hq]
  clear hq KR
  replace BE:=qD (BE.out.step' hb)
  replace B0:=qD (B0.out.step hb)
  clear hb d0 d8
  go_upto_region 25 with fail
  change Code.wp _ _ _ _ (w2.alloc (.cells (arrI q) 67))
  have J:Hid (Blk (w2.alloc (.cells (arrI q) 67)) w2.heap.size 67 (arrI q)):=Blk.new_at rfl
  replace BE:=qD (BE.out.alloc BE.out.size (Obj.cells (arrI q) 67))
  replace B0:=qD (B0.out.alloc (.cells (arrI q) 67))
  generalize w2.alloc (.cells (arrI q) 67)=w3 at*
  generalize w2.heap.size=gj at*
  obtain⟨_,_,_,_,_,d8,_,_⟩:=pr_cells B0.out
  go_upto_region 26 with fail
  have B:=qD ((Below.refl w3.heap.size w3).drewN 1)
  obtain⟨⟨a0,a1,a2,a3,a4⟩,⟨b0,b1,b2',b3,b4⟩,b5,b6⟩:=IAt.of_blk J.out
  simp only[Nat.zero_add] at a0 a1 a2 a3 a4 b0 b1 b2' b3 b4 b5 b6
  have KS:Hid (∀w',Below w3.heap.size w3 w'→(fun w'=>w'.cell? ⟨gj,0,none⟩=some (.int .i64 q.1.1.1.k)∧w'.cell? ⟨gj,1,none⟩=some (.int .i64 q.1.1.1.n)∧w'.cell? ⟨gj,2,none⟩=some (.string q.1.1.1.t)∧w'.cell? ⟨gj,3,none⟩=some (.slice q.1.1.1.LA q.1.1.1.ln q.1.1.1.lc)∧w'.cell? ⟨gj,4,none⟩=some (.slice q.1.1.1.DA q.1.1.1.dn q.1.1.1.dc)∧w'.cell? ⟨gj,5,none⟩=some (.int .i64 q.1.2.1.k)∧w'.cell? ⟨gj,6,none⟩=some (.int .i64 q.1.2.1.n)∧w'.cell? ⟨gj,7,none⟩=some (.string q.1.2.1.t)∧w'.cell? ⟨gj,8,none⟩=some (.slice q.1.2.1.LA q.1.2.1.ln q.1.2.1.lc)∧w'.cell? ⟨gj,9,none⟩=some (.slice q.1.2.1.DA q.1.2.1.dn q.1.2.1.dc)∧w'.cell? ⟨gj,10,none⟩=some (.bool q.2.1)∧w'.cell? ⟨gj,11,none⟩=some (.bool q.2.2)∧w'.cell? ⟨w.heap.size,8,none⟩=some (.int .i64 p.n)) w'):=qD fun w' hb=>⟨(hb.cell (p:=⟨gj,0,none⟩) J.out.lt).trans a0,(hb.cell (p:=⟨gj,1,none⟩) J.out.lt).trans a1,(hb.cell (p:=⟨gj,2,none⟩) J.out.lt).trans a2,(hb.cell (p:=⟨gj,3,none⟩) J.out.lt).trans a3,(hb.cell (p:=⟨gj,4,none⟩) J.out.lt).trans a4,(hb.cell (p:=⟨gj,5,none⟩) J.out.lt).trans b0,(hb.cell (p:=⟨gj,6,none⟩) J.out.lt).trans b1,(hb.cell (p:=⟨gj,7,none⟩) J.out.lt).trans b2',(hb.cell (p:=⟨gj,8,none⟩) J.out.lt).trans b3,(hb.cell (p:=⟨gj,9,none⟩) J.out.lt).trans b4,(hb.cell (p:=⟨gj,10,none⟩) J.out.lt).trans b5,(hb.cell (p:=⟨gj,11,none⟩) J.out.lt).trans b6,(hb.cell (p:=⟨w.heap.size,8,none⟩) B0.out.lt).trans d8⟩
  clear a0 a1 a2 a3 a4 b0 b1 b2' b3 b4 b5 b6 d8
  go_region_held3 (fun w'=>w'.cell? ⟨gj,0,none⟩=some (.int .i64 q.1.1.1.k)∧w'.cell? ⟨gj,1,none⟩=some (.int .i64 q.1.1.1.n)∧w'.cell? ⟨gj,2,none⟩=some (.string q.1.1.1.t)∧w'.cell? ⟨gj,3,none⟩=some (.slice q.1.1.1.LA q.1.1.1.ln q.1.1.1.lc)∧w'.cell? ⟨gj,4,none⟩=some (.slice q.1.1.1.DA q.1.1.1.dn q.1.1.1.dc)∧w'.cell? ⟨gj,5,none⟩=some (.int .i64 q.1.2.1.k)∧w'.cell? ⟨gj,6,none⟩=some (.int .i64 q.1.2.1.n)∧w'.cell? ⟨gj,7,none⟩=some (.string q.1.2.1.t)∧w'.cell? ⟨gj,8,none⟩=some (.slice q.1.2.1.LA q.1.2.1.ln q.1.2.1.lc)∧w'.cell? ⟨gj,9,none⟩=some (.slice q.1.2.1.DA q.1.2.1.dn q.1.2.1.dc)∧w'.cell? ⟨gj,10,none⟩=some (.bool q.2.1)∧w'.cell? ⟨gj,11,none⟩=some (.bool q.2.2)∧w'.cell? ⟨w.heap.size,8,none⟩=some (.int .i64 p.n))
   (first|exact KS.out _ B.out|exact KS.out _ (B.out.alloc B.out.size _)|((try dsimp only);assumption)|go_keep)
   ((go_at_call 61;refine(normalF_any [q] _ 1 1 _ (HT.out.step (BE.out.step' (B.out.alloc B.out.size _))) (si_one (Blk.new_at rfl) (HQ.out _)) (by omega)).mono ?_;rintro e3 w5 ⟨A3,m3,c3,ys,nf,rfl,hy,hnf,hmk,hsi,hb3,hfr⟩;have HNO:=qD (show OfOk ((fun a=>inS cmC a (spansL ([q].map ivP))),b2) 1 _ (.returned (.tuple #[.slice A3 m3 c3,.bool b2])) w5 from⟨A3,m3,c3,ys,nf,rfl,hy,hnf,hmk,hsi,hb3,hfr⟩);replace HNO:=qD (HNO.out.up (B.out.alloc B.out.size _) (qL));replace B:=qD ((B.out.alloc B.out.size _).step' hb3);clear hy hnf hmk hsi hb3 hfr))
  all_goals
   go_wp2_with fail
   go_ret2
   rw[HL.out]
   exact HNO.out.up BE.out HSZ.out
abbrev predA(op:Int)(PA:Option Addr)(pn pc:Nat)(a:VC):Array Value:=#[.int .i64 op,.slice PA pn pc,.int .i64 a.k,.int .i64 a.n,.string a.t,.slice a.LA a.ln a.lc,.slice a.DA a.dn a.dc,.slice none 0 0,.int .i64 0,.int .i64 0,.int .i64 0,.slice none 0 0,.int .i64 0,.int .i64 0,.slice none 0 0,.string ByteArray.empty,.slice none 0 0,.int .i64 0,.int .i64 0,.string ByteArray.empty,.slice none 0 0,.slice none 0 0,.int .i64 0,.slice none 0 0,.slice none 0 0]
abbrev predV(op:Int)(PA:Option Addr)(pn pc:Nat)(a:VC):Value:=.agg (predA op PA pn pc a)
theorem pt_nf{x:Val}(h:validV x=true):IsNF (fun a=>inS cmC a (spansL [ptIv x])) [((x,false),(x,true))]:=by
 have hne:(ptIv x).ne=true:=by rw[pt_ne];exact h
 have e:spansL [ptIv x]=[((x,false),(x,true))]:=by unfold spansL;rw[List.filter_cons_of_pos hne];rfl
 refine⟨⟨fun s hs=>?_,by simp⟩,fun a=>by rw[e]⟩
 rw[←e] at hs
 exact spansL_ne s hs
def OneOk(q:Iv)(b:Bool)(w:World)(e:Ending)(w':World):Prop:=
 ∃(A:Option Addr) (c:Nat) (p:PI),e=.returned (.tuple #[.slice A 1 c,.bool b])∧ivP p=q∧SI w' A 1 c [p]∧Below w.heap.size w w'
theorem norm_one{S:Cut→Prop}{s:Cut×Cut}{k:Nat}{w:World}{e:Ending}{w':World}(h:NormOk S k w e w')(hs:IsNF S [s]):
 ∃(A:Option Addr) (c:Nat) (p:PI),e=.returned (.slice A 1 c)∧ivP p=ivOf s∧SI w' A 1 c [p]∧Below w.heap.size w w':=by
 obtain⟨A,m,c,ys,n,he,hy,hn,_,hsi,hb⟩:=h
 have hn':=hn.unique hs fun a _=>Iff.rfl
 subst hn'
 have hl:=congrArg List.length hy
 simp only[List.length_map,List.length_cons,List.length_nil] at hl
 obtain⟨p,rfl⟩:=List.length_eq_one_iff.1 hl
 have hm:=hsi.sr.ln
 simp only[List.length_cons,List.length_nil] at hm
 subst hm
 refine⟨A,c,p,he,?_,hsi,hb⟩
 simpa using hy
theorem of_eq(x:Val)(a:VC)(PA QA:Option Addr)(pn pc qn qc:Nat)(l:List ByteArray)(w:World)(hT:Tabs w)(ha:RW w a x)(hx:validV x=true)(h6:a.k≠6)(h2:a.k≠2)(hp:ST w PA pn pc l)(hq:ST w QA qn qc l)(hs:sameP l l=true):
 Calls Tryz.prog 22 #[predV 2 PA pn pc a,.slice QA qn qc] w (OneOk (ptIv x) true w):=by
 have HT:=qD hT
 have HX:=qD ha
 have HV:=qD hx
 have HE:=qD (equal_any l l PA QA pn pc qn qc)
 rw[hs] at HE
 have HP:=qD hp
 have HQ:=qD hq
 have k6:(a.k != 6)=true:=by simpa using h6
 have k2:(a.k != 2)=true:=by simpa using h2
 have B0:Hid (Blk (w.alloc (.cells (predA 2 PA pn pc a) 38)) w.heap.size 38 (predA 2 PA pn pc a)):=Blk.new_at rfl
 have BE:=qD ((Below.refl w.heap.size w).alloc (qL) (Obj.cells (predA 2 PA pn pc a) 38))
 clear hT ha hx hp hq hs h6 h2
 go_enter Tryz.func22,Tryz.ntmps22
 go_upto_region 1 with fail
 change Code.wp _ _ _ _ (w.alloc (.cells (predA 2 PA pn pc a) 38))
 generalize w.alloc (.cells (predA 2 PA pn pc a) 38)=wa at*
 have p0:=B0.out.cell 0
 have p1:=B0.out.cell 1
 have p2:=B0.out.cell 2
 have p3:=B0.out.cell 3
 have p4:=B0.out.cell 4
 have p5:=B0.out.cell 5
 have p6:=B0.out.cell 6
 simp at p0 p1 p2 p3 p4 p5 p6
 go_wp2_with fail
 refine(HE.out wa (HP.out.step BE.out) (HQ.out.step BE.out)).mono ?_
 rintro e w1 ⟨rfl,hb⟩
 have C0:=qD (B0.out.step hb)
 have CE:=qD (BE.out.step' hb)
 clear hb B0 BE HE HP HQ p0 p1 p2 p3 p4 p5 p6
 have p0:=C0.out.cell 0
 have p1:=C0.out.cell 1
 have p2:=C0.out.cell 2
 have p3:=C0.out.cell 3
 have p4:=C0.out.cell 4
 have p5:=C0.out.cell 5
 have p6:=C0.out.cell 6
 simp at p0 p1 p2 p3 p4 p5 p6
 go_upto_region 11 with fail
 have B:=qD ((Below.refl w1.heap.size w1).drewN 1)
 have KS:Hid (∀w',Below w1.heap.size w1 w'→w'.cell? ⟨w.heap.size,2,none⟩=some (.int .i64 a.k)∧w'.cell? ⟨w.heap.size,3,none⟩=some (.int .i64 a.n)∧w'.cell? ⟨w.heap.size,4,none⟩=some (.string a.t)∧w'.cell? ⟨w.heap.size,5,none⟩=some (.slice a.LA a.ln a.lc)∧w'.cell? ⟨w.heap.size,6,none⟩=some (.slice a.DA a.dn a.dc)):=qD fun w' hb=>⟨(hb.cell (p:=⟨w.heap.size,2,none⟩) C0.out.lt).trans p2,(hb.cell (p:=⟨w.heap.size,3,none⟩) C0.out.lt).trans p3,(hb.cell (p:=⟨w.heap.size,4,none⟩) C0.out.lt).trans p4,(hb.cell (p:=⟨w.heap.size,5,none⟩) C0.out.lt).trans p5,(hb.cell (p:=⟨w.heap.size,6,none⟩) C0.out.lt).trans p6⟩
 clear p0 p1 p2 p3 p4 p5 p6
 go_region_held3 (fun w'=>w'.cell? ⟨w.heap.size,2,none⟩=some (.int .i64 a.k)∧w'.cell? ⟨w.heap.size,3,none⟩=some (.int .i64 a.n)∧w'.cell? ⟨w.heap.size,4,none⟩=some (.string a.t)∧w'.cell? ⟨w.heap.size,5,none⟩=some (.slice a.LA a.ln a.lc)∧w'.cell? ⟨w.heap.size,6,none⟩=some (.slice a.DA a.dn a.dc))
  (first|exact KS.out _ B.out|exact KS.out _ (B.out.alloc B.out.size _)|((try dsimp only);assumption)|go_keep)
  ((go_at_call 59;refine(points_any [(a,x)] _ 1 1 _ (HT.out.step (CE.out.step' (B.out.alloc B.out.size _))) (sl_one (Blk.new_at rfl) (HX.out.step (CE.out.step' (B.out.alloc B.out.size _)))) (by omega)).mono ?_;rintro e3 w3 hno;obtain⟨A3,c3,p3,rfl,hp3,hsi,hb⟩:=norm_one hno (pt_nf HV.out);replace B:=qD ((B.out.alloc B.out.size _).step' hb);have HS3:=qD hsi;have HP3:=qD hp3;clear hb hsi hp3 hno))
 all_goals
  go_wp2_with fail
  go_ret2
  exact⟨A3,c3,p3,rfl,HP3.out,HS3.out,CE.out.step' B.out⟩
end Go.Proofs.YtfkapannahcjiaaGreatDoor
