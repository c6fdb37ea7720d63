/- Parts of the proof, joined: BoOr, IxRep, BoForP, BoKind6. -/
import Derived.Test.YtfkdihlbaghajaaGreatDoorOf1
import Derived.Test.YtfkdihlbaghajaaGreatDoorOf17
import Derived.Test.YtfkdihlbaghajaaGreatDoorOf15
import Derived.Test.YtfkdihlbaghajaaGreatDoorOf2
import Derived.Test.YtfkdihlbaghajaaGreatDoorOf16
import Derived.Deep.RegionHeld3
set_option maxRecDepth 100000
set_option maxHeartbeats 16000000
set_option linter.unusedSimpArgs false
namespace Go.Proofs.YtfkdihlbaghajaaGreatDoor
open Go.RowKit
structure OrI(l:List ByteArray)(p:PrT)(w:World)(i m:Nat)(v:Value)(b:Bool)(xs:List PI)(wr:World):Prop where
 own:wr.ownsRow w.heap.size 93 12 v m (flat recI xs)
 ln:xs.length=m
 le:m≤PrT.sz.szL (p.kids.take i)
 fr:∀x∈xs,RV (fun b=>w.heap.size≤b∧v.ownBlock≠some b) wr x.1.1.1 x.1.1.2∧RV (fun b=>w.heap.size≤b∧v.ownBlock≠some b) wr x.1.2.1 x.1.2.2
 set:∀a,inS cmC a (spansL (xs.map ivP))↔∃r∈(p.kids.take i).map (ofS l),r.1 a
 no:∀r∈(p.kids.take i).map (ofS l),isAllB r.1=false
 ex:b=((p.kids.take i).map (ofS l)).all fun r=>r.2
 bel:Below w.heap.size w wr
theorem OrI.step{l:List ByteArray}{p:PrT}{w:World}{i m:Nat}{v:Value}{b:Bool}{xs:List PI}{wr w':World}(h:OrI l p w i m v b xs wr)(hb:Below wr.heap.size wr w'):OrI l p w i m v b xs w':=
 ⟨own_step h.own hb,h.ln,h.le,fun x hx=>⟨(h.fr x hx).1.step hb,(h.fr x hx).2.step hb⟩,h.set,h.no,h.ex,h.bel.step' hb⟩
theorem nf_spans{S:Cut→Prop}{ys:List PI}{nf:List (Cut×Cut)}(hy:ys.map ivP=nf.map ivOf)(hn:IsNF S nf)(a:Cut):inS cmC a (spansL (ys.map ivP))↔S a:=by
 rw[hy,spansL_of fun s hs=>hn.1.ne s hs,hn.2 a]
theorem rv_grown0{lo:Nat}{v v':Value}{w3 w4:World}{c:VC}{x:Val}(hr:RV (fun b=>lo≤b∧v.ownBlock≠some b) w3 c x)(hg:w3.grownBy w4 v.ownBlock)(hat:v'.ownBlock=v.ownBlock∨v'.ownBlock=some w3.heap.size):
 RV (fun b=>lo≤b∧v'.ownBlock≠some b) w4 c x:=hr.keepG fun b hb hl=>by
 refine⟨⟨hb.1,fun e=>?_⟩,hg.block b hl (fun e=>hb.2 e.symm)⟩
 rcases hat with h|h
 ·rw[h] at e;exact hb.2 e
 ·rw[h] at e;injection e with e;omega
theorem OrI.next{l:List ByteArray}{p k:PrT}{w:World}{i m m3:Nat}{v v':Value}{b b':Bool}{xs ys:List PI}{nf:List (Cut×Cut)}{w5 w6:World}(h:OrI l p w i m v b xs w5)(hk:p.kids[i]?=some k)(hy:ys.map ivP=nf.map ivOf)(hn:IsNF (ofS l k).1 nf)(h3:ys.length=m3)(hm:m3≤k.sz)(hfr:∀y∈ys,RV (fun b=>w.heap.size≤b∧v.ownBlock≠some b) w5 y.1.1.1 y.1.1.2∧RV (fun b=>w.heap.size≤b∧v.ownBlock≠some b) w5 y.1.2.1 y.1.2.2)(hall:isAllB (ofS l k).1=false)(hb':b'=(b&&(ofS l k).2))(ho:w6.ownsRow w.heap.size 93 12 v' (m+m3) (flat recI xs++flat recI ys))(hg:w5.grownBy w6 v.ownBlock)(hat:v'.ownBlock=v.ownBlock∨v'.ownBlock=some w5.heap.size):OrI l p w (i+1) (m+m3) v' b' (xs++ys) w6:=by
 have tk:p.kids.take (i+1)=p.kids.take i++[k]:=by rw[List.take_add_one,hk];rfl
 refine⟨by rw[flat_append];exact ho,by rw[List.length_append,h.ln,h3],by rw[szL_take _ _ hk];have:=h.le;omega,fun x hx=>?_,fun a=>?_,fun r hr=>?_,?_,h.bel.grown hg h.bel.size (own_ge h.own)⟩
 ·have hx':RV (fun b=>w.heap.size≤b∧v.ownBlock≠some b) w5 x.1.1.1 x.1.1.2∧RV (fun b=>w.heap.size≤b∧v.ownBlock≠some b) w5 x.1.2.1 x.1.2.2:=by
   rcases List.mem_append.1 hx with hx|hx
   ·exact h.fr x hx
   ·exact hfr x hx
  exact⟨rv_grown0 hx'.1 hg hat,rv_grown0 hx'.2 hg hat⟩
 ·rw[List.map_append,spansL_app,inS_app,h.set a,nf_spans hy hn a,tk,List.map_append]
  constructor
  ·rintro(⟨r,hr,ha⟩|ha)
   ·exact⟨r,List.mem_append_left _ hr,ha⟩
   ·exact⟨ofS l k,by simp,ha⟩
  ·rintro⟨r,hr,ha⟩
   rcases List.mem_append.1 hr with hr|hr
   ·exact .inl ⟨r,hr,ha⟩
   ·obtain rfl:r=ofS l k:=by simpa using hr
    exact .inr ha
 ·rw[tk,List.map_append] at hr
  rcases List.mem_append.1 hr with hr|hr
  ·exact h.no r hr
  ·obtain rfl:r=ofS l k:=by simpa using hr
   exact hall
 ·rw[hb',h.ex,tk,List.map_append,List.all_append]
  simp
theorem flatI_oneB(xs:List PI):∀u∈flat recI xs,u.oneCell'=true:=by
 intro u hu
 obtain⟨p,_,h⟩:=List.mem_flatMap.1 hu
 exact recI_one p u h
theorem orS_all{rs:List PSet}{r:PSet}(h:r∈rs)(ha:isAllB r.1=true):orS rs=(allS,false):=by
 unfold orS
 rw[if_pos (List.any_eq_true.2 ⟨r,h,ha⟩)]
theorem orS_none{rs:List PSet}(h:∀r∈rs,isAllB r.1=false):orS rs=(fun a=>∃r∈rs,r.1 a,rs.all fun r=>r.2):=by
 unfold orS
 rw[if_neg]
 intro k
 obtain⟨r,hr,ha⟩:=List.any_eq_true.1 k
 rw[h r hr] at ha
 exact absurd ha (by decide)
theorem ofOr_any(p:PrT)(ih:∀k∈p.kids,OfAt k)(A:Option Addr)(n c:Nat)(l:List ByteArray)(w:World)(hw:WP w p)(hk:∀k∈p.kids,VPr k)(hT:Tabs w)(hl:ST w A n c l)(hz:p.sz≤300000000)(hne:p.kids≠[]):
 Calls Tryz.prog 45 #[aggPr p,.slice A n c] w (OfOk (orS (p.kids.map (ofS l))) p.sz w):=by
 obtain⟨j0,hj0,hy0,hy1,hy2⟩:=info_parts info_interval
 have HT:=qD hT
 have W:=qD hw.open
 have HL:=qD hl
 have IH:Hid (∀k∈p.kids,∀wr,Below w.heap.size w wr→Calls Tryz.prog 14 #[aggPr k,.slice A n c] wr (OfOk (ofS l k) k.sz wr)):=qD fun k hkm wr hb=>by
  have hs:k.sz≤p.sz:=by rw[p.sz_eq];have:=szL_ge hkm;omega
  exact ih k hkm A n c l wr ((W.out.kids k hkm).step hb) (hk k hkm) (HT.out.step hb) (HL.out.step hb) (by omega)
 have hkz:p.kn≤140737488355328:=by have:=W.out.ksz;unfold reach at this;omega
 have HKN:=qD W.out.sr.ln
 have HSZ:Hid (PrT.sz.szL p.kids+1≤p.sz):=by rw[Hid,p.sz_eq];omega
 have HZ:=qD hz
 have hk0:0<p.kn:=by
  have:=W.out.sr.ln
  have h0:0<p.kids.length:=List.length_pos_iff.2 hne
  omega
 clear hw hk hT hl hz ih hne
 have B0:Hid (Blk (w.alloc (.cells (arrPr p) 41)) w.heap.size 41 (arrPr p)):=Blk.new_at rfl
 have BE:=qD ((Below.refl w.heap.size w).alloc (qL) (Obj.cells (arrPr p) 41))
 go_enter Tryz.func45,Tryz.ntmps45
 go_upto_region 1 with fail
 change Code.wp _ _ _ _ (w.alloc (.cells (arrPr p) 41))
 generalize w.alloc (.cells (arrPr p) 41)=wa at*
 obtain⟨_,_,_,_,_,_,_,d24⟩:=pr_cells B0.out
 have h1b:((p.kn:Int)==0)=false:=by simp;omega
 clear hk0
 go_upto_region 6 with fail
 go_loopw [6,7,9,10,11,20] (fun v6 v7 _ _ _ v wr=>∃(i m:Nat) (b:Bool) (xs:List PI),i≤p.kn∧v=.int .i64 i∧v7=.bool b∧OrI l p w i m v6 b xs wr) (fun _ _ _ _ _ v _=>p.kn-(intOf v).toNat)
 case atStart=>
  refine⟨0,0,true,[],Nat.zero_le _,rfl,rfl,own_nil _ _ _ _,rfl,Nat.zero_le _,by simp,fun a=>?_,by simp,rfl,BE.out⟩
  constructor
  ·rintro⟨s,hs,_⟩;simp[spansL] at hs
  ·rintro⟨r,hr,_⟩;simp at hr
 case round=>
  obtain⟨i,m,bx,xs,hi,rfl,rfl,hI⟩:=hrel
  clear B0 BE d24
  have HI:=qD hI
  obtain⟨A6,c6,rfl,hmc⟩:=own_slice hI.own
  have HM:Hid (m+1≤p.sz):=by
   have h1:=hI.le
   have h2:=szL_take_le p.kids i
   have h3:=HSZ.out
   exact qD (by omega)
  clear hI
  by_cases hlt:i<p.kn
  ·obtain⟨b,off,k,hA,hb,hx,hm,hrg⟩:=W.out.sr.row hlt
   have RG:=qD (range_step hrg HI.out.bel hb)
   have HX:=qD hx
   have HMK:=qD hm
   have HMZ:Hid (m+k.sz≤300000000):=by
    have h1:=HI.out.le
    have h2:=szL_take_le p.kids (i+1)
    rw[szL_take _ _ hx] at h2
    have h3:=HSZ.out
    have h4:=HZ.out
    exact qD (by omega)
   have i0:(0:Int)≤(i:Int):=by omega
   have i1:(i:Int)<(p.kn:Int):=by omega
   rw[hA]
   clear hrg hx hm hA
   go_upto_region 8 with(first
    | ((with_reducible show wpList _ _ _ (⟨_,.load 41 _,_,_,_,_⟩::_) _ _);refine wpList_mid_w rfl 41 _ rfl b (off+i*25) rfl _ _ RG.out Tryz.underlying41 rfl (by kernel_rfl) ?_)
    | ((with_reducible show wpList _ _ _ (⟨_,.store 41 _ _,_,_,_,_⟩::_) _ _);refine wpList_store_row rfl 41 _ _ rfl wr.heap.size (arrPr k) rfl rfl 41 _ (Blk.new_at rfl) (by kernel_rfl) rfl (arrPr_all k) ?_;refine wpl_name ?_;intro w4 hw4;have JB:Hid (Blk w4 wr.heap.size 41 (arrPr k)):=(by rw[Hid,hw4];exact blk_row (Blk.new_at rfl) _);have BW4:Hid (Below wr.heap.size wr w4):=(by rw[Hid,hw4];exact bel_row ((Below.refl _ _).alloc (qL) _) (qL) _);clear hw4 RG))
   replace HI:=qD (HI.out.step BW4.out)
   generalize wr.heap.size=gk at*
   have RJ:=qD (pr_full JB.out)
   clear JB BW4
   go_upto_region 9 with(first
    | ((with_reducible show wpList _ _ _ (⟨_,.load 41 _,_,_,_,_⟩::_) _ _);refine wpList_mid_w rfl 41 _ rfl gk 0 rfl _ _ RJ.out Tryz.underlying41 rfl (by kernel_rfl) ?_)
    | (go_at_call 14;refine(IH.out k HMK.out _ HI.out.bel).mono ?_;rintro e w5 ⟨A3,m3,c3,ys,nf,rfl,hy,hnf,hmk,hsi,hb3,hfr⟩;have HY:=qD hy;have HNF:=qD hnf;have HM3:=qD hmk;have HSI:=qD hsi;have HB5:=qD hb3;have HFR:=qD hfr;clear hy hnf hmk hsi hb3 hfr RJ))
   have HOL:Hid (∀g,(Value.slice A6 m c6).ownBlock=some g→g<w4.heap.size):=qD fun g hg=>own_lt HI.out.own hg
   have HW4:Hid (w.heap.size≤w4.heap.size):=qD HI.out.bel.size
   replace HI:=qD (HI.out.step HB5.out)
   obtain⟨ab,hab⟩:∃b,b=isAllB (ofS l k).1:=⟨_,rfl⟩
   have HIA:=qD (isAll_any ys A3 m3 c3 w5 HSI.out HY.out HNF.out)
   rw[←hab] at HIA
   have HAB:=qD hab
   clear hab
   go_wp2_with fail
   refine HIA.out.mono ?_
   rintro e w6 ⟨rfl,hb6⟩
   replace HI:=qD (HI.out.step hb6)
   have HSI6:=qD (HSI.out.step hb6)
   have HFR6:Hid (∀y∈ys,RV (fun b=>w.heap.size≤b∧(Value.slice A6 m c6).ownBlock≠some b) w6 y.1.1.1 y.1.1.2∧RV (fun b=>w.heap.size≤b∧(Value.slice A6 m c6).ownBlock≠some b) w6 y.1.2.1 y.1.2.2):=qD fun y hy=>by
    have key:∀q,w4.heap.size≤q→w.heap.size≤q∧(Value.slice A6 m c6).ownBlock≠some q:=fun q hq=>⟨Nat.le_trans HW4.out hq,fun e=>by have:=HOL.out q e;omega⟩
    exact⟨((HFR.out y hy).1.step hb6).mono key,((HFR.out y hy).2.step hb6).mono key⟩
   clear hb6 HIA HSI HFR HOL HW4 HB5
   cases ab
   ·have hml:ys.length=m3:=HSI6.out.sr.ln.symm
    have HML:=qD hml
    have HRD:=qD HSI6.out.reads
    have hm3:m3≤k.sz:=HM3.out
    have hmz:=HMZ.out
    have z1:m+m3≤maxLen:=by unfold maxLen;omega
    have z2:(m+m3)*168≤140737488355328:=by omega
    clear hml
    cases bx
    all_goals
     go_wp2_with (at_builtin;refine wpList_append_any _ rfl _ _ 51 rfl w.heap.size 93 j0 (aggI (((VC.zero,Val.zero),(VC.zero,Val.zero)),(false,false))) 12 168 Tryz.underlying51 hj0 hy0 hy1 hy2 rfl (by decide) (.slice A6 m c6) m (flat recI xs) rfl HI.out.own _ _ m3 _ (flat recI ys) rfl HRD.out ?c1 z1 z2 HI.out.bel.size ?_)
     case c1=>exact flatI_oneB _
     intro v7 w7 hown hgr hat
    ·have HN:=qD (HI.out.next (b':=false) HX.out HY.out HNF.out HML.out hm3 HFR6.out HAB.out.symm (Bool.false_and _).symm hown hgr hat)
     clear hown hgr hat
     go_wp2_with fail
     go_roundw
     case rel=>exact⟨i+1,m+m3,_,_,by omega,by go_num,rfl,HN.out⟩
     case measure=>simp[intOf];omega
    ·have HN:=qD (HI.out.next (b':=(ofS l k).2) HX.out HY.out HNF.out HML.out hm3 HFR6.out HAB.out.symm (Bool.true_and _).symm hown hgr hat)
     clear hown hgr hat
     go_wp2_with fail
     go_roundw
     case rel=>exact⟨i+1,m+m3,_,_,by omega,by go_num,rfl,HN.out⟩
     case measure=>simp[intOf];omega
   ·have HE:Hid (orS (p.kids.map (ofS l))=(allS,false)):=qD (orS_all (List.mem_map_of_mem HMK.out) HAB.out.symm)
    go_wp2_with fail
    refine(allF_any w6).mono ?_
    rintro e w3 ⟨A9,m9,c9,zs,nf9,rfl,hy,hnf,hmk,hsi,hb3,hfr⟩
    have HNO:=qD (show OfOk (allS,false) 1 w6 (.returned (.tuple #[.slice A9 m9 c9,.bool false])) w3 from⟨A9,m9,c9,zs,nf9,rfl,hy,hnf,hmk,hsi,hb3,hfr⟩)
    clear hy hnf hmk hsi hb3 hfr
    go_wp2_with fail
    go_ret2
    rw[HE.out]
    exact HNO.out.up HI.out.bel (by have:=HSZ.out;omega)
  ·obtain rfl:i=p.kn:=by omega
   have HTK:p.kids.take p.kn=p.kids:=List.take_of_length_le (by have:=HKN.out;omega)
   have HE:Hid (orS (p.kids.map (ofS l))=(fun a=>inS cmC a (spansL (xs.map ivP)),bx)):=by
    have h1:=HI.out.no
    have h2:=HI.out.set
    have h3:=HI.out.ex
    rw[HTK] at h1 h2 h3
    rw[Hid,orS_none h1,←h3]
    exact congrArg (fun s=>(s,bx)) (funext fun a=>propext (h2 a).symm)
   obtain⟨A7,c7,e7,hs7⟩:=SI.of_own HI.out.own HI.out.ln (by have h4:=HZ.out;have h5:=HM.out;unfold reach;omega) (fun x hx=>⟨(HI.out.fr x hx).1.mono fun _ _=>trivial,(HI.out.fr x hx).2.mono fun _ _=>trivial⟩)
   injection e7 with e7a _ e7c
   subst e7a e7c
   have HSI:=qD hs7
   have HMZ:Hid (m≤1000000000):=qD (by have h4:=HZ.out;have h5:=HM.out;omega)
   have BE:=qD HI.out.bel
   clear hs7 HI HTK
   go_wp2_with fail
   refine(normalF_any xs _ m _ wr (HT.out.step BE.out) HSI.out HMZ.out).mono ?_
   rintro e w3 ⟨A9,m9,c9,zs,nf9,rfl,hy,hnf,hmk,hsi,hb3,hfr⟩
   have HNO:=qD (show OfOk (fun a=>inS cmC a (spansL (xs.map ivP)),bx) m wr (.returned (.tuple #[.slice A9 m9 c9,.bool bx])) w3 from⟨A9,m9,c9,zs,nf9,rfl,hy,hnf,hmk,hsi,hb3,hfr⟩)
   clear hy hnf hmk hsi hb3 hfr
   go_wp2_with fail
   go_ret2
   rw[HE.out]
   exact HNO.out.up BE.out (by have:=HM.out;omega)
structure IxT where
 name:ByteArray
 kind:Int
 kA:Option Addr
 kn:Nat
 kc:Nat
 ks:List Od
 uq:Bool
 sp:Bool
 pa:Bool
 wh:PrT
def recIx(x:IxT):List Value:=.string x.name::.int .i64 x.kind::.slice x.kA x.kn x.kc::.bool x.uq::.bool x.sp::.bool x.pa::recPr x.wh
abbrev arrIx(x:IxT):Array Value:=(recIx x).toArray
abbrev aggIx(x:IxT):Value:=.agg (arrIx x)
structure WIx(w:World)(x:IxT):Prop where
 nsz:x.name.size≤reach
 ks:KS w x.kA x.kn x.kc x.ks
 wh:WP w x.wh
structure IxC(w:World)(g:Nat)(x:IxT):Prop where
 d0:w.cell? ⟨g,0,none⟩=some (.string x.name)
 d1:w.cell? ⟨g,1,none⟩=some (.int .i64 x.kind)
 d2:w.cell? ⟨g,2,none⟩=some (.slice x.kA x.kn x.kc)
 d3:w.cell? ⟨g,3,none⟩=some (.bool x.uq)
 d4:w.cell? ⟨g,4,none⟩=some (.bool x.sp)
 d5:w.cell? ⟨g,5,none⟩=some (.bool x.pa)
theorem ix_cells{w:World}{g:Nat}{t:TypeId}{x:IxT}(h:Blk w g t (arrIx x)):IxC w g x:=
 ⟨(h.cell 0).trans rfl,(h.cell 1).trans rfl,(h.cell 2).trans rfl,(h.cell 3).trans rfl,(h.cell 4).trans rfl,(h.cell 5).trans rfl⟩
theorem RV.missK{F:Nat→Prop}{w:World}{g:Nat}(h0:0<g)(hg:∀off c,¬VAt w g off c){x:Val}:∀{c:VC},RV F w c x→RV (fun b=>F b∧b≠g) w c x:=by
 induction x using Val.ind with
 | h k n t l d ihl ihd=>
  intro c h
  have ho:=h.open
  have hft:∀{b:Nat},Ft F w b→b≠g→Ft (fun b=>F b∧b≠g) w b:=fun hF hne=>⟨⟨hF.1,hne⟩,fun hn=>hF.2 fun hz=>hn ⟨hz,by omega⟩⟩
  refine RVs.shut ⟨ho.k,ho.n,ho.t,ho.tsz,ho.ln,ho.lc,ho.lsz,fun h'=>?_,ho.dn,ho.dc,ho.dsz,fun h'=>?_⟩
  ·obtain⟨b,off,e,hF,hl⟩:=ho.la h'
   have hb:b≠g:=by
    rintro rfl
    obtain⟨y,hy⟩:∃y,l[0]?=some y:=⟨_,List.getElem?_eq_getElem (by have:=ho.ln;simp only[Val.l] at this;omega)⟩
    obtain⟨e',he',_⟩:=hl 0 y hy
    exact hg _ _ he'
   refine⟨b,off,e,hft hF hb,fun i y hi=>?_⟩
   obtain⟨e',he',hr⟩:=hl i y hi
   exact⟨e',he',ihl y (List.mem_of_getElem? hi) hr⟩
  ·obtain⟨b,off,e,hF,hl⟩:=ho.da h'
   have hb:b≠g:=by
    rintro rfl
    obtain⟨y,hy⟩:∃y,d[0]?=some y:=⟨_,List.getElem?_eq_getElem (by have:=ho.dn;simp only[Val.d] at this;omega)⟩
    obtain⟨_,_,e',he',_⟩:=hl 0 y hy
    exact hg _ _ he'
   refine⟨b,off,e,hft hF hb,fun i f hi=>?_⟩
   obtain⟨hs,hz,e',he',hr⟩:=hl i f hi
   exact⟨hs,hz,e',he',ihd f (List.mem_of_getElem? hi) hr⟩
def AllSl(w:World)(g:Nat):Prop:=∀off v,w.cell? ⟨g,off,none⟩=some v→∃A n c,v=.slice A n c
theorem AllSl.no{w:World}{g:Nat}(h:AllSl w g)(off:Nat)(c:VC):¬VAt w g off c:=by
 intro hv
 obtain⟨A,n,k,e⟩:=h _ _ hv.1
 cases e
theorem SI.far{w w1:World}{g:Nat}(h0:0<g)(hg:AllSl w g)(hk:∀b,b≠g→b<w.heap.size→w1.heap[b]?=w.heap[b]?)(hs:w.heap.size≤w1.heap.size){A:Option Addr}{n c:Nat}{ys:List PI}(h:SI w A n c ys):SI w1 A n c ys:=by
 refine⟨⟨h.sr.ln,h.sr.lc,fun hn=>?_⟩,h.sz,fun x hx=>?_⟩
 ·obtain⟨b,off,e,hl,hc⟩:=h.sr.el hn
  have hb:b≠g:=by
   rintro rfl
   obtain⟨p,hp⟩:∃p,ys[0]?=some p:=⟨_,List.getElem?_eq_getElem (by have:=h.sr.ln;omega)⟩
   obtain⟨A,n,k,e⟩:=hg _ _ (hc 0 p hp 0 _ rfl)
   cases e
  exact⟨b,off,e,by omega,fun i p hi j v hj=>by rw[World.cell?_of_block (hk b hb hl)];exact hc i p hi j v hj⟩
 ·obtain⟨h1,h2⟩:=h.ok x hx
  have key:∀b,(True∧b≠g)→b<w.heap.size→True∧w1.heap[b]?=w.heap[b]?:=fun b hb hl=>⟨trivial,hk b hb.2 hl⟩
  exact⟨(RV.missK h0 hg.no h1).keepG key,(RV.missK h0 hg.no h2).keepG key⟩
structure IL where
 A:Option Addr
 n:Nat
 c:Nat
 ys:List PI
def recIL(h:IL):List Value:=[.slice h.A h.n h.c]
def IL.nil:IL:=⟨none,0,0,[]⟩
structure BL(w:World)(A:Option Addr)(n c:Nat)(ls:List IL):Prop where
 sr:SR 1 recIL w A n c ls
 sz:n*24≤reach
 el:∀h∈ls,SI w h.A h.n h.c h.ys
structure NfL(S:Cut→Prop)(k:Nat)(h:IL):Prop where
 nf:∃nf,h.ys.map ivP=nf.map ivOf∧IsNF S nf
 le:h.ys.length≤k
structure Nfs(Ss:List (Cut→Prop))(k:Nat)(ls:List IL):Prop where
 ln:ls.length=Ss.length
 at_:∀(i:Nat) (S:Cut→Prop) (h:IL),Ss[i]?=some S→ls[i]?=some h→NfL S k h
def partsP(p:PrT):List PrT:=if p.op=20 then p.kids else [p]
def forP(l:List ByteArray)(ks:List PrT):Cut→Prop:=fun a=>allS a∧∀k∈ks,(ofS l k).1 a
noncomputable def forR(kind:Int)(mu:Bool)(os:List Od)(p:PrT):List (Cut→Prop)×Bool:=
 if kind≠1 then(os.map fun _=>allS,false)
 else if mu then(os.map fun o=>(ofS o.p p).1,(os.any fun o=>(ofS o.p p).2)&&decide ((partsP p).length=1))
 else(os.map fun o=>forP o.p (partsP p),(partsP p).all fun k=>os.any fun o=>(ofS o.p k).2)
theorem forR_other{kind:Int}(h:kind≠1)(mu:Bool)(os:List Od)(p:PrT):forR kind mu os p=(os.map fun _=>allS,false):=by unfold forR;rw[if_pos h]
theorem forR_multi(os:List Od)(p:PrT):forR 1 true os p=(os.map fun o=>(ofS o.p p).1,(os.any fun o=>(ofS o.p p).2)&&decide ((partsP p).length=1)):=by unfold forR;simp
theorem forR_plain(os:List Od)(p:PrT):forR 1 false os p=(os.map fun o=>forP o.p (partsP p),(partsP p).all fun k=>os.any fun o=>(ofS o.p k).2):=by unfold forR;simp
def ForOk(r:List (Cut→Prop)×Bool)(k:Nat)(w:World)(e:Ending)(w':World):Prop:=
 ∃(A:Option Addr) (n c:Nat) (ls:List IL),e=.returned (.tuple #[.slice A n c,.bool r.2])∧BL w' A n c ls∧Nfs r.1 k ls∧Below w.heap.size w w'
theorem partsP_sz{p:PrT}:PrT.sz.szL (partsP p)≤p.sz:=by
 unfold partsP
 split
 ·rw[p.sz_eq];omega
 ·simp[PrT.sz.szL]
theorem meetN_any{S T:Cut→Prop}{l m:List (Cut×Cut)}(is js:List PI)(A B:Option Addr)(n c n' c':Nat)(w:World)(hT:Tabs w)(h:SI w A n c is)(h':SI w B n' c' js)(hl:is.map ivP=l.map ivOf)(hm:js.map ivP=m.map ivOf)(kl:IsNF S l)(km:IsNF T m)(hn:n≤400000000)(hn':n'≤400000000):
 Calls Tryz.prog 63 #[.slice A n c,.slice B n' c'] w (NormOk (fun a=>S a∧T a) (n+n') w):=by
 refine(meet_any is js A B n c n' c' w hT h h' hn hn').mono ?_
 rintro e w' ⟨A3,m3,c3,zs,r,e1,e2,e3,e4,e5,e6⟩
 exact⟨A3,m3,c3,zs,r,e1,e2,⟨e3.1,fun a=>(e3.2 a).trans (and_congr (nf_spans hl kl a) (nf_spans hm km a))⟩,e4,e5,e6⟩
theorem forP_nil{l:List ByteArray}:forP l []=allS:=by
 funext a
 simp[forP]
theorem forP_snoc{l:List ByteArray}{ks:List PrT}{k:PrT}:forP l (ks++[k])=fun a=>forP l ks a∧(ofS l k).1 a:=by
 funext a
 simp only[forP,List.mem_append,List.mem_singleton,eq_iff_iff]
 constructor
 ·rintro⟨h1,h2⟩
  exact⟨⟨h1,fun x hx=>h2 x (.inl hx)⟩,h2 k (.inr rfl)⟩
 ·rintro⟨⟨h1,h2⟩,h3⟩
  refine⟨h1,fun x hx=>?_⟩
  rcases hx with hx|rfl
  ·exact h2 x hx
  ·exact h3
theorem kindRange6(w:World):Calls Tryz.prog 49 #[.int .i64 6] w fun e w'=>e=.returned (.tuple #[aggI zI,.bool false])∧Below w.heap.size w w':=by
 go_enter Tryz.func49,Tryz.ntmps49
 have B0:Hid (Blk ((w.alloc (.cells (arrI zI) 93)).alloc (.cells (arrI (((cLf 6 0 ByteArray.empty,vKd 6),(cLf 6 0 ByteArray.empty,vKd 6)),(true,true))) 93)) w.heap.size 93 (arrI zI)):=(Blk.new_at rfl).alloc _
 have BE:Hid (Below w.heap.size w ((w.alloc (.cells (arrI zI) 93)).alloc (.cells (arrI (((cLf 6 0 ByteArray.empty,vKd 6),(cLf 6 0 ByteArray.empty,vKd 6)),(true,true))) 93))):=((Below.refl _ _).alloc (qL) _).alloc (by simp) _
 go_upto_region 2 with fail
 change Code.wp _ _ _ _ ((w.alloc (.cells (arrI zI) 93)).alloc (.cells (arrI (((cLf 6 0 ByteArray.empty,vKd 6),(cLf 6 0 ByteArray.empty,vKd 6)),(true,true))) 93))
 generalize ((w.alloc (.cells (arrI zI) 93)).alloc (.cells (arrI (((cLf 6 0 ByteArray.empty,vKd 6),(cLf 6 0 ByteArray.empty,vKd 6)),(true,true))) 93))=wa at*
 have hmk:=make12 wa
 have hcv:=conv12 wa
 go_upto_region 3 with fail
 change Code.wp _ _ _ _ ((wa.alloc (.cells twelve0 5)).alloc (.cells (cLf 8 0 zero12).arr 32))
 replace B0:=qD ((B0.out.alloc (.cells twelve0 5)).alloc (.cells (cLf 8 0 zero12).arr 32))
 replace BE:=qD ((BE.out.alloc BE.out.size (.cells twelve0 5)).alloc (by have:=BE.out.size;simp;omega) (Obj.cells (cLf 8 0 zero12).arr 32))
 clear hmk hcv
 generalize ((wa.alloc (.cells twelve0 5)).alloc (.cells (cLf 8 0 zero12).arr 32))=wb at*
 have HALL:Hid ((arrI zI).all (·.oneCell')=true):=by rw[Hid];simp[Value.oneCell']
 go_wp2_with ((with_reducible show wpList _ _ _ (⟨_,.store 93 _ _,_,_,_,_⟩::_) _ _);refine wpList_store_row rfl 93 _ _ rfl w.heap.size (arrI zI) rfl rfl 93 _ B0.out (by kernel_rfl) rfl HALL.out ?_)
 exact bodyPost_ret (results_ivb rfl _ _ rfl _ rfl _ (arrI zI) rfl (blk_row B0.out (arrI zI))) rfl ⟨rfl,bel_row BE.out (qL) _⟩
end Go.Proofs.YtfkdihlbaghajaaGreatDoor
