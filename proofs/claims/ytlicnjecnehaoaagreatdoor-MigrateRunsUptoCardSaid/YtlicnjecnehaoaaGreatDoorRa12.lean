/- Parts of the proof, joined: ShVals, EncPure, EncNum, EncApp. -/
import Derived.Test.YtlicnjecnehaoaaGreatDoorRa1
import Derived.Test.YtlicnjecnehaoaaGreatDoorRa4
import Derived.Test.YtlicnjecnehaoaaGreatDoorRa5
import Derived.Test.YtlicnjecnehaoaaGreatDoorRa11
import Derived.Test.YtlicnjecnehaoaaGreatDoorRa2
import Derived.Laws.BytesArg
import Derived.Laws.Strings
import Derived.Lib.AppendStr
set_option maxRecDepth 100000
set_option maxHeartbeats 16000000
set_option linter.unusedSimpArgs false
namespace Go.Proofs.YtlicnjecnehaoaaGreatDoor
open Go.RowKit
theorem alloc_le{a:Nat}{w:World}(h:a≤w.heap.size)(o:Obj):a≤(w.alloc o).heap.size:=by simp;omega
def valsAt(x:Val):List Od→Option (List Val)
 | []=>some []
 | q::r=>match keyAt x q.p with
  | none=>none
  | some y=>(valsAt x r).map (y::·)
theorem valsAt_at{x:Val}{ks:List Od}{i:Nat}{q:Od}(h:ks[i]?=some q):valsAt x (ks.drop i)=match keyAt x q.p with
 | none=>none
 | some y=>(valsAt x (ks.drop (i+1))).map (y::·):=by rw[drop_of h,valsAt]
noncomputable def valsR(ks:List Od)(x:Val):Option (List Val):=if x.k=5∧validV x=true then valsAt x ks else none
theorem valsR_yes{ks:List Od}{x:Val}(h:x.k=5)(h':validV x=true):valsR ks x=valsAt x ks:=if_pos ⟨h,h'⟩
theorem valsR_kind{ks:List Od}{x:Val}(h:x.k≠5):valsR ks x=none:=if_neg fun e=>h e.1
theorem valsR_bad{ks:List Od}{x:Val}(h:validV x=false):valsR ks x=none:=if_neg fun e=>by rw[h] at e;cases e.2
def RVo(F:Nat→Prop)(w:World)(c:VC)(o:Option Val):Prop:=∀y,o=some y→RV F w c y
theorem RVo.keep{F:Nat→Prop}{w w':World}{c:VC}{o:Option Val}(h:RVo F w c o)(hk:∀b,F b→w'.heap[b]?=w.heap[b]?):RVo F w' c o:=fun y hy=>(h y hy).keep hk
theorem RVo.alloc{F:Nat→Prop}{w:World}{c:VC}{o:Option Val}(h:RVo F w c o)(q:Obj):RVo F (w.alloc q) c o:=fun y hy=>(h y hy).alloc q
structure VsI(w:World)(v:Value)(ps:List PV)(wr:World):Prop where
 own:wr.ownsRow w.heap.size 45 5 v ps.length (flat recV ps)
 rv:∀p∈ps,RV (fun b=>v.ownBlock≠some b) wr p.1 p.2
 bel:Below w.heap.size w wr
theorem VsI.step{w wr w':World}{v:Value}{ps:List PV}(h:VsI w v ps wr)(hb:Below wr.heap.size wr w'):VsI w v ps w':=⟨own_step h.own hb,fun p hp=>(h.rv p hp).step hb,h.bel.step' hb⟩
theorem VsI.start(w:World):VsI w (.slice none 0 0) [] w:=⟨own_nil _ _ _ _,fun p hp=>by simp at hp,Below.refl _ _⟩
theorem VsI.add{w wr w':World}{v v':Value}{ps:List PV}{p:PV}{m:Nat}(h:VsI w v ps wr)(hp:RV (fun b=>v.ownBlock≠some b) wr p.1 p.2)(hm:m=ps.length+1)(ho:w'.ownsRow w.heap.size 45 5 v' m (flat recV ps++recV p))(hg:wr.grownBy w' v.ownBlock)(hat:v'.ownBlock=v.ownBlock∨v'.ownBlock=some wr.heap.size):VsI w v' (ps++[p]) w':=by
 subst hm
 have key:∀b,v.ownBlock≠some b→b<wr.heap.size→v'.ownBlock≠some b∧w'.heap[b]?=wr.heap[b]?:=fun b hb hl=>by
  refine⟨?_,hg.block b hl (fun e=>hb e.symm)⟩
  rcases hat with e|e<;>rw[e]
  ·exact hb
  ·intro e'
   injection e' with e'
   omega
 refine⟨by rw[flat_snoc,List.length_append];exact ho,fun q hq=>?_,h.bel.grown hg h.bel.size (own_ge h.own)⟩
 rcases List.mem_append.1 hq with hq|hq
 ·exact(h.rv q hq).keepG key
 ·simp at hq
  subst hq
  exact hp.keepG key
theorem VsI.far{w wr:World}{v:Value}{ps:List PV}(h:VsI w v ps wr){b:Nat}(hb:b<w.heap.size∨wr.heap.size≤b):v.ownBlock≠some b:=fun e=>by
 have h1:=own_ge h.own b e
 have h2:=own_lt h.own e
 omega
theorem VsI.sl{w wr:World}{v:Value}{ps:List PV}(h:VsI w v ps wr)(hz:ps.length≤1000000):∃A c,v=.slice A ps.length c∧SL (fun _=>True) wr A ps.length c ps:=
 SL.of_own h.own rfl (by unfold reach;omega) (fun _ _=>trivial) fun p hp=>(h.rv p hp).mono fun _ _=>trivial
def ValsOk(ks:List Od)(x:Val)(w:World)(e:Ending)(w':World):Prop:=
 ∃v:Value,e=.returned (.tuple #[v,.bool (valsR ks x).isSome])∧(∀ys,valsR ks x=some ys→∃ps A n c,ps.map Prod.snd=ys∧v=.slice A n c∧SL (fun _=>True) w' A n c ps)∧Below w.heap.size w w'
structure VlI(w:World)(k:Array Value)(c:VC)(v:Value)(ps:List PV)(wr:World):Prop where
 b0:Blk wr w.heap.size 24 k
 b1:Blk wr (w.heap.size+1) 45 c.arr
 sz:w.heap.size+2≤wr.heap.size
 vs:VsI w v ps wr
 ne:v.ownBlock≠some w.heap.size∧v.ownBlock≠some (w.heap.size+1)
theorem VlI.step{w wr w':World}{k:Array Value}{c:VC}{v:Value}{ps:List PV}(h:VlI w k c v ps wr)(hb:Below wr.heap.size wr w'):VlI w k c v ps w':=⟨h.b0.step hb,h.b1.step hb,Nat.le_trans h.sz hb.size,h.vs.step hb,h.ne⟩
theorem VlI.add{w wr w':World}{k:Array Value}{c:VC}{v v':Value}{ps:List PV}{p:PV}{m:Nat}(h:VlI w k c v ps wr)(hp:RV (fun b=>v.ownBlock≠some b) wr p.1 p.2)(hm:m=ps.length+1)(ho:w'.ownsRow w.heap.size 45 5 v' m (flat recV ps++recV p))(hg:wr.grownBy w' v.ownBlock)(hat:v'.ownBlock=v.ownBlock∨v'.ownBlock=some wr.heap.size):VlI w k c v' (ps++[p]) w':=by
 have hs:=h.sz
 refine⟨h.b0.grown hg (fun e=>h.ne.1 e.symm),h.b1.grown hg (fun e=>h.ne.2 e.symm),Nat.le_trans h.sz hg.size,h.vs.add hp hm ho hg hat,?_⟩
 rcases hat with e|e<;>rw[e]
 ·exact h.ne
 ·exact⟨fun e=>(by injection e;omega),fun e=>(by injection e;omega)⟩
theorem VlI.start{w:World}{c:VC}{k:Array Value}:VlI w k c (.slice none 0 0) [] ((w.alloc (.cells k 24)).alloc (.cells c.arr 45)):=by
 have hb:Below w.heap.size w ((w.alloc (.cells k 24)).alloc (.cells c.arr 45)):=((Below.refl _ _).alloc (qL) _).alloc (by simp) _
 exact⟨(Blk.new_at rfl).alloc _,Blk.new_at (by simp),by simp,⟨own_nil _ _ _ _,fun p hp=>by simp at hp,hb⟩,by simp[Value.ownBlock],by simp[Value.ownBlock]⟩
theorem rvalues_any(ks:List Od)(ha:Bool)(A:Option Addr)(n cc:Nat)(x:Val)(c:VC)(w:World)(hk:KS w A n cc ks)(hx:RW w c x)(h8:ks.length≤8):
 Calls Tryz.prog 89 #[.agg #[.slice A n cc,.bool ha],c.val] w (ValsOk ks x w):=by
 obtain⟨i0,hi0,hy0,hy1,hy2⟩:=info_parts info_value
 have HN:=qD hk.ln
 have HX:=qD hx
 have HK:=qD hk
 have HKX:Hid (c.k=x.k):=hx.open.k
 have hn8:n≤8:=by have:=HN.out;omega
 have I0:Hid (VlI w #[.slice A n cc,.bool ha] c (.slice none 0 0) [] ((w.alloc (.cells #[.slice A n cc,.bool ha] 24)).alloc (.cells c.arr 45))):=VlI.start
 clear hk hx
 go_enter Tryz.func89,Tryz.ntmps89
 go_upto_region 2 with fail
 change Code.wp _ _ _ _ ((w.alloc (.cells #[.slice A n cc,.bool ha] 24)).alloc (.cells c.arr 45))
 generalize ((w.alloc (.cells #[.slice A n cc,.bool ha] 24)).alloc (.cells c.arr 45))=wa at*
 obtain⟨a0,a1,a2,a3,a4⟩:=VAt.of_blk I0.out.b1
 simp only[Nat.zero_add] at a0 a1 a2 a3 a4
 by_cases h5:c.k=5
 rotate_left
 ·have h5b:(c.k != 5)=true:=by simp[h5]
  have HV:Hid (valsR ks x=none):=valsR_kind (by rw[←HKX.out];exact h5)
  clear h5
  go_wp2_with fail
  go_ret2
  exact⟨_,by rw[HV.out];rfl,fun ys h=>by rw[HV.out] at h;(cases h),I0.out.vs.bel⟩
 have h5b:(c.k != 5)=false:=by simp[h5]
 have HX5:Hid (x.k=5):=by unfold Hid;rw[←HKX.out];exact h5
 clear h5
 have hva:=qD (rvalid_any x c wa (HX.out.step I0.out.vs.bel))
 cases hv:validV x
 ·have HV:Hid (valsR ks x=none):=valsR_bad hv
  rw[hv] at hva
  clear hv
  go_wp2_with fail
  refine hva.out.mono ?_
  rintro e w1 ⟨rfl,hb⟩
  have I1:=qD (I0.out.step hb)
  clear hva hb a0 a1 a2 a3 a4
  go_wp2_with fail
  go_ret2
  exact⟨_,by rw[HV.out];rfl,fun ys h=>by rw[HV.out] at h;(cases h),I1.out.vs.bel⟩
 have HVX:Hid (valsR ks x=valsAt x ks):=valsR_yes HX5.out hv
 rw[hv] at hva
 clear hv
 go_wp2_with fail
 refine hva.out.mono ?_
 rintro e w1 ⟨rfl,hb⟩
 have I1:=qD (I0.out.step hb)
 clear hva hb a0 a1 a2 a3 a4 I0
 go_upto_region 5 with fail
 go_loopw [6,7,8,9] (fun u6 u7 _ _ wr=>∃(i:Nat) (ps:List PV),i≤n∧ps.length=i∧u7=.int .i64 i∧valsAt x ks=(valsAt x (ks.drop i)).map (ps.map Prod.snd++·)∧VlI w #[.slice A n cc,.bool ha] c u6 ps wr) (fun _ u7 _ _ _=>n-(intOf u7).toNat)
 case atStart=>exact⟨0,[],Nat.zero_le _,rfl,rfl,by simp,I1.out⟩
 case round=>
  obtain⟨i,ps,hi,hpl,rfl,hall,J⟩:=hrel
  have HPL:=qD hpl
  have HA:=qD hall
  have J2:=qD J
  have k0:=J.b0.cell 0
  simp at k0
  clear hpl hall J I1
  by_cases hlt:i<n
  ·obtain⟨os,hos⟩:=HK.out
   obtain⟨b,off,o,hA,hb,ho,e0,e1⟩:=hos.sr.at2 hlt
   subst hA
   obtain⟨q,hq⟩:∃q,ks[i]?=some q:=⟨_,List.getElem?_eq_getElem (by have:=HN.out;omega)⟩
   have HOR:=qD (hos.el i o q ho hq)
   have HVA:=qD (valsAt_at (x:=x) hq)
   have ew:=(J2.out.vs.bel.cell (p:=⟨b,off+i*2,none⟩) hb).trans e0
   have i0':(0:Int)≤(i:Int):=by omega
   have i1':(i:Int)<(n:Int):=by omega
   clear hos ho hq e0 e1
   obtain⟨a0,a1,a2,a3,a4⟩:=VAt.of_blk J2.out.b1
   simp only[Nat.zero_add] at a0 a1 a2 a3 a4
   go_upto_region 7 with fail
   have lb0:=J2.out.b0.lt
   have lb1:=J2.out.b1.lt
   have lbb:b<wr.heap.size:=Nat.lt_of_lt_of_le hb J2.out.vs.bel.size
   have hsz:w.heap.size≤wr.heap.size:=J2.out.vs.bel.size
   have KC:Hid (∀w':World,(∀g,g<wr.heap.size→w'.heap[g]?=wr.heap[g]?)→w'.cell? ⟨w.heap.size+1,0,none⟩=some (.int .i64 c.k)∧w'.cell? ⟨w.heap.size+1,1,none⟩=some (.int .i64 c.n)∧w'.cell? ⟨w.heap.size+1,2,none⟩=some (.string c.t)∧w'.cell? ⟨w.heap.size+1,3,none⟩=some (.slice c.LA c.ln c.lc)∧w'.cell? ⟨w.heap.size+1,4,none⟩=some (.slice c.DA c.dn c.dc)∧w'.cell? ⟨w.heap.size,0,none⟩=some (.slice (some ⟨b,off,none⟩) n cc)∧w'.cell? ⟨b,off+i*2,none⟩=some (.slice o.A o.n o.c)):=qD fun w' hk=>by
    have p0:∀o,w'.cell? ⟨w.heap.size,o,none⟩=wr.cell? ⟨w.heap.size,o,none⟩:=fun o=>World.cell?_of_block (w:=wr) (a:=⟨w.heap.size,o,none⟩) (hk _ lb0)
    have p1:∀o,w'.cell? ⟨w.heap.size+1,o,none⟩=wr.cell? ⟨w.heap.size+1,o,none⟩:=fun o=>World.cell?_of_block (w:=wr) (a:=⟨w.heap.size+1,o,none⟩) (hk _ lb1)
    have p2:∀o,w'.cell? ⟨b,o,none⟩=wr.cell? ⟨b,o,none⟩:=fun o=>World.cell?_of_block (w:=wr) (a:=⟨b,o,none⟩) (hk _ lbb)
    exact⟨(p1 _).trans a0,(p1 _).trans a1,(p1 _).trans a2,(p1 _).trans a3,(p1 _).trans a4,(p0 _).trans k0,(p2 _).trans ew⟩
   have HGV:Hid (∀wq,Below wr.heap.size wr wq→Calls Tryz.prog 117 #[c.val,.slice o.A o.n o.c] wq (fun e w'=>∃c9:VC,e=.returned (.tuple #[c9.val,.bool (keyAt x q.p).isSome])∧RVo (fun b=>b<w.heap.size) w' c9 (keyAt x q.p)∧Below wq.heap.size wq w')):=
    qD fun wq hq=>rkv_any q.p (fun b=>b<w.heap.size) x c o.A o.n o.c wq (fun b hb=>by have:=hq.size;omega) ((HX.out.lt.mono fun b hb=>hb.2).keep fun b hb=>(J2.out.vs.bel.step' hq).block b hb) ((HOR.out.st.step J2.out.vs.bel).step hq)
   go_cut [8,9] (fun v8 v9 wx=>∃(g9:Nat) (c9:VC),v8=.pointer (some ⟨g9,0,none⟩)∧v9=.bool (keyAt x q.p).isSome∧Blk wx g9 45 c9.arr∧RVo (fun b=>b<w.heap.size) wx c9 (keyAt x q.p)∧wr.heap.size≤g9∧Below wr.heap.size wr wx)
   case first=>
    refine wp_region_noPanic ?_
    refine wp_region_held_drew (S:=(fun w'=>w'.cell? ⟨w.heap.size+1,0,none⟩=some (.int .i64 c.k)∧w'.cell? ⟨w.heap.size+1,1,none⟩=some (.int .i64 c.n)∧w'.cell? ⟨w.heap.size+1,2,none⟩=some (.string c.t)∧w'.cell? ⟨w.heap.size+1,3,none⟩=some (.slice c.LA c.ln c.lc)∧w'.cell? ⟨w.heap.size+1,4,none⟩=some (.slice c.DA c.dn c.dc)∧w'.cell? ⟨w.heap.size,0,none⟩=some (.slice (some ⟨b,off,none⟩) n cc)∧w'.cell? ⟨b,off+i*2,none⟩=some (.slice o.A o.n o.c))) (by kernel_rfl) ?_ (fun hHeld=>?_)
    ·(try dsimp only);exact KC.out _ (fun g hg=>rfl)
    have B:Hid (Below wr.heap.size wr wr.drew):=qD ((Below.refl wr.heap.size wr).drew)
    generalize wr.drew=W0 at*
    refine rU 0 rfl ?_
    try go_frame
    refine rU 1 rfl ?_
    try go_frame
    refine rU 2 rfl ?_
    try go_frame
    refine rU 3 rfl ?_
    try go_frame
    refine rU 4 rfl ?_
    try go_frame
    refine rU 5 rfl ?_
    try go_frame
    refine rU 6 rfl ?_
    try go_frame
    refine rR [7,11] ?_
    refine rC (fun K hK=>?_) (rC (fun K hK=>?_) rN)
    ·go_simp
     refine(HGV.out _ B.out).mono ?_
     rintro e W1 ⟨c9,rfl,hr,hb⟩
     have R9:=qD hr
     replace B:=qD (B.out.step' hb)
     clear hb hr
     (try go_wp2_with fail)
     clear hHeld
     refine hK.out _ _ ?_ fun hHeld=>?_
     ·(try dsimp only);exact KC.out _ (fun g hg=>B.out.block g hg)
     clear hK K
     try go_frame
     refine rU 8 rfl ?_
     try go_frame
     refine rU 9 rfl ?_
     try go_frame
     refine rU 10 rfl ?_
     try go_frame
     refine rY 11 rfl fun K hK=>?_
     go_simp
     have hg9:wr.heap.size≤W1.heap.size:=B.out.size
     have Q9:Hid (Blk (W1.alloc (.cells VC.zero.arr 45)) W1.heap.size 45 VC.zero.arr):=Blk.new_at rfl
     replace R9:=qD (R9.out.alloc (.cells VC.zero.arr 45))
     replace B:=qD (B.out.alloc B.out.size (Obj.cells VC.zero.arr 45))
     change K _ (W1.alloc (.cells VC.zero.arr 45))
     generalize W1.alloc (.cells VC.zero.arr 45)=W2 at*
     generalize W1.heap.size=g9 at*
     clear hHeld
     refine hK.out _ _ ?_ fun hHeld=>?_
     ·(try dsimp only);exact KC.out _ (fun g hg=>B.out.block g hg)
     clear hK K
     try go_frame
     refine rY 12 rfl fun K hK=>?_
     obtain⟨z0,z1,z2,z3,z4⟩:=VAt.of_blk Q9.out
     simp only[Nat.zero_add] at z0 z1 z2 z3 z4
     have zz:=Q9.out.frozen
     have lq:=Q9.out.lt
     go_simp
     have R9':=qD (R9.out.keep (w':=setV W2 g9 0 c9) fun b hb=>heap_setV (by have hb:b<w.heap.size:=hb;omega))
     have Q9':=qD (Q9.out.putV c9)
     have B':=qD (below_setV B.out hg9 0 c9)
     clear z0 z1 z2 z3 z4 zz lq R9 Q9 B
     have R9:=R9'
     have Q9:=Q9'
     have B:=B'
     clear R9' Q9' B'
     change K _ (setV W2 g9 0 c9)
     generalize setV W2 g9 0 c9=W3 at*
     clear hHeld
     refine hK.out _ _ ?_ fun hHeld=>?_
     ·(try dsimp only);exact KC.out _ (fun g hg=>B.out.block g hg)
     clear hK K
     try go_frame
     refine rU 13 rfl ?_
     try go_frame
     refine rD ?_ _
     refine NoPanic.normal ?_
     go_wp2_with fail
     go_meet
     exact⟨g9,c9,rfl,rfl,Q9.out,R9.out,by omega,B.out⟩
    ·go_simp
     have hg9:wr.heap.size≤W0.heap.size:=B.out.size
     have Q9:Hid (Blk (W0.alloc (.cells VC.zero.arr 45)) W0.heap.size 45 VC.zero.arr):=Blk.new_at rfl
     replace B:=qD (B.out.alloc B.out.size (Obj.cells VC.zero.arr 45))
     change K _ (W0.alloc (.cells VC.zero.arr 45))
     generalize W0.alloc (.cells VC.zero.arr 45)=W1 at*
     generalize W0.heap.size=g9 at*
     clear hHeld
     refine hK.out _ _ ?_ fun hHeld=>?_
     ·(try dsimp only);exact KC.out _ (fun g hg=>B.out.block g hg)
     clear hK K
     try go_frame
     refine rY 7 rfl fun K hK=>?_
     go_simp
     refine(HGV.out _ B.out).mono ?_
     rintro e W2 ⟨c9,rfl,hr,hb⟩
     have R9:=qD hr
     replace Q9:=qD (Q9.out.step hb)
     replace B:=qD (B.out.step' hb)
     clear hb hr
     (try go_wp2_with fail)
     clear hHeld
     refine hK.out _ _ ?_ fun hHeld=>?_
     ·(try dsimp only);exact KC.out _ (fun g hg=>B.out.block g hg)
     clear hK K
     try go_frame
     refine rU 8 rfl ?_
     try go_frame
     refine rU 9 rfl ?_
     try go_frame
     refine rU 10 rfl ?_
     try go_frame
     refine rY 12 rfl fun K hK=>?_
     obtain⟨z0,z1,z2,z3,z4⟩:=VAt.of_blk Q9.out
     simp only[Nat.zero_add] at z0 z1 z2 z3 z4
     have zz:=Q9.out.frozen
     have lq:=Q9.out.lt
     go_simp
     have R9':=qD (R9.out.keep (w':=setV W2 g9 0 c9) fun b hb=>heap_setV (by have hb:b<w.heap.size:=hb;omega))
     have Q9':=qD (Q9.out.putV c9)
     have B':=qD (below_setV B.out hg9 0 c9)
     clear z0 z1 z2 z3 z4 zz lq R9 Q9 B
     have R9:=R9'
     have Q9:=Q9'
     have B:=B'
     clear R9' Q9' B'
     change K _ (setV W2 g9 0 c9)
     generalize setV W2 g9 0 c9=W3 at*
     clear hHeld
     refine hK.out _ _ ?_ fun hHeld=>?_
     ·(try dsimp only);exact KC.out _ (fun g hg=>B.out.block g hg)
     clear hK K
     try go_frame
     refine rU 13 rfl ?_
     try go_frame
     refine rD ?_ _
     refine NoPanic.normal ?_
     go_wp2_with fail
     go_meet
     exact⟨g9,c9,rfl,rfl,Q9.out,R9.out,by omega,B.out⟩
   case rest=>
    obtain⟨g9,c9,rfl,rfl,hg9,hr9,hl9,hb9⟩:=hcut
    have J3:=qD (J2.out.step hb9)
    have G9:=qD hg9
    have GR:=qD hr9
    have HL9:Hid (Value.ownBlock u6≠some g9):=fun e=>absurd (own_lt J2.out.vs.own e) (by omega)
    clear HGV KC a0 a1 a2 a3 a4 k0 ew hg9 hr9 hb9 lb0 lb1 lbb J2
    generalize wc=w2 at*
    cases hg:keyAt x q.p with
    | none=>
     have HV:Hid (valsR ks x=none):=by unfold Hid;rw[HVX.out,HA.out,HVA.out,hg];rfl
     clear hg
     go_wp2_with fail
     go_ret2
     exact⟨_,by rw[HV.out];rfl,fun ys h=>by rw[HV.out] at h;(cases h),J3.out.vs.bel⟩
    | some y=>
     have HV:Hid (valsAt x ks=(valsAt x (ks.drop (i+1))).map ((ps.map Prod.snd++[y])++·)):=by
      unfold Hid
      rw[HA.out,HVA.out,hg]
      simp[Option.map_map,Function.comp_def]
     have HRY:=qD (GR.out y hg)
     clear hg
     obtain⟨g0,g1,g2,g3,g4⟩:=VAt.of_blk G9.out
     simp only[Nat.zero_add] at g0 g1 g2 g3 g4
     have hlo:w.heap.size≤w2.heap.size:=J3.out.vs.bel.size
     have hpi:ps.length≤8:=by have:=HPL.out;omega
     have LK:=qD (J3.out.step ((Below.refl w2.heap.size w2).alloc (qL) (Obj.cells c9.arr 45)))
     have HRZ:Hid (RV (fun b=>Value.ownBlock u6≠some b) (w2.alloc (.cells c9.arr 45)) c9 y):=((HRY.out.alloc _).mono fun b hb=>J3.out.vs.far (.inl hb))
     go_wp2_with (at_builtin;refine wpList_append_any _ rfl _ _ 42 rfl w.heap.size 45 i0 VC.zero.val 5 80 Tryz.underlying42 hi0 hy0 hy1 hy2 rfl (by decide) u6 ps.length (flat recV ps) rfl LK.out.vs.own _ _ 1 _ (recV (c9,y)) rfl ⟨rfl,fun _=>⟨_,rfl,Nat.lt_succ_self _,news_at _ _ _⟩⟩ (recV_one _) (by unfold maxLen;omega) (by omega) (alloc_le hlo _) ?_)
     intro v' w4 hown hgr hat
     have HI:=qD (LK.out.add (p:=(c9,y)) HRZ.out rfl hown hgr (by rw[size_alloc];exact hat))
     clear hown hgr hat LK HRZ g0 g1 g2 g3 g4 HRY GR G9 J3
     go_wp2_with fail
     go_roundw
     case rel=>exact⟨i+1,ps++[(c9,y)],hlt,by rw[List.length_append,HPL.out];rfl,by go_num,by rw[HV.out];simp,HI.out⟩
     case measure=>simp[intOf];omega
  ·obtain rfl:i=n:=by omega
   have HV:Hid (valsR ks x=some (ps.map Prod.snd)):=by
    unfold Hid
    rw[HVX.out,HA.out,List.drop_of_length_le (by have:=HN.out;omega),valsAt]
    simp
   obtain⟨A1,c1,hu6,hsl⟩:=J2.out.vs.sl (by have:=HPL.out;omega)
   have HSL:=qD hsl
   subst hu6
   clear hsl
   go_wp2_with fail
   go_ret2
   exact⟨_,by rw[HV.out];rfl,fun ys h=>by rw[HV.out] at h;exact⟨ps,A1,ps.length,c1,Option.some.inj h,rfl,HSL.out⟩,J2.out.vs.bel⟩
def U64(n:Int):Nat:=((n+9223372036854775808)%18446744073709551616).toNat
def num8(n:Int)(s:Nat):Int:=((U64 n/2^s%256:Nat):Int)
def numsTo(n:Int)(i:Nat):List Int:=(List.range i).map fun j=>num8 n (56-8*j)
def nums(n:Int):List Int:=numsTo n 8
theorem numsTo_succ(n:Int)(i:Nat):numsTo n (i+1)=numsTo n i++[num8 n (56-8*i)]:=by
 unfold numsTo
 rw[List.range_succ,List.map_append]
 rfl
theorem numsTo_len(n:Int)(i:Nat):(numsTo n i).length=i:=by simp[numsTo]
def byteN(x:UInt8):List Int:=if x=0 then [0,255] else [(x.toNat:Int)]
def textN:List UInt8→List Int
 | []=>[]
 | x::r=>byteN x++textN r
def strN(s:ByteArray):List Int:=s.data.toList.map fun x=>(x.toNat:Int)
mutual
def encV:Val→List Int
 | .mk k n t l d=>k::(if k=3∨k=9∨k=10 then nums n else if k=4∨k=7∨k=8 then textN t.data.toList++[0,0] else if k=6 then encL l++[0] else if k=5 then encD d++[0] else [])
def encL:List Val→List Int
 | []=>[]
 | v::r=>1::(encV v++encL r)
def encD:List Fld→List Int
 | []=>[]
 | f::r=>encF f++encD r
def encF:Fld→List Int
 | .mk s v=>1::(strN s++0::encV v)
end
theorem encF_eq(f:Fld):encF f=1::(strN f.s++0::encV f.v):=by cases f;simp only[encF];rfl
theorem encV_eq(x:Val):encV x=x.k::(if x.k=3∨x.k=9∨x.k=10 then nums x.n else if x.k=4∨x.k=7∨x.k=8 then textN x.t.data.toList++[0,0] else if x.k=6 then encL x.l++[0] else if x.k=5 then encD x.d++[0] else []):=by cases x;rw[encV];rfl
theorem encL_append:∀l m:List Val,encL (l++m)=encL l++encL m
 | [],m=>rfl
 | a::r,m=>by rw[List.cons_append,encL,encL,encL_append r m];simp
theorem encD_append:∀l m:List Fld,encD (l++m)=encD l++encD m
 | [],m=>rfl
 | a::r,m=>by rw[List.cons_append,encD,encD,encD_append r m];simp
theorem encL_snoc{l:List Val}{i:Nat}{y:Val}(h:l[i]?=some y):encL (l.take (i+1))=encL (l.take i)++1::encV y:=by
 rw[take_snoc' h,encL_append,encL,encL]
 simp
theorem encD_snoc{l:List Fld}{i:Nat}{y:Fld}(h:l[i]?=some y):encD (l.take (i+1))=encD (l.take i)++(1::(strN y.s++0::encV y.v)):=by
 rw[take_snoc' h,encD_append,encD,encD,encF_eq]
 simp
theorem textN_append:∀l m:List UInt8,textN (l++m)=textN l++textN m
 | [],m=>rfl
 | a::r,m=>by
  rw[List.cons_append,textN,textN,textN_append r m,List.append_assoc]
theorem textN_snoc{l:List UInt8}{i:Nat}{y:UInt8}(h:l[i]?=some y):textN (l.take (i+1))=textN (l.take i)++byteN y:=by
 rw[take_snoc' h,textN_append,textN,textN]
 simp
theorem textN_len:∀l:List UInt8,(textN l).length≤2*l.length
 | []=>by simp[textN]
 | a::r=>by
  have:=textN_len r
  rw[textN,byteN]
  split<;>simp<;>omega
def encAll(l:List Val):List Int:=l.flatMap encV
theorem encAll_snoc{l:List Val}{i:Nat}{y:Val}(h:l[i]?=some y):encAll (l.take (i+1))=encAll (l.take i)++encV y:=by
 rw[take_snoc' h]
 simp[encAll]
theorem dsize(t:ByteArray):t.data.toList.length=t.size:=by rw[Array.length_toList];rfl
theorem HeadP.text{k n:Int}{t:ByteArray}{ln dn:Nat}(h:HeadP k n t ln dn):t.data.toList.length≤4096:=by
 have e:=dsize t
 obtain⟨_,h2,_,_,h5⟩:=h
 rw[e]
 rcases h2 with h|h|h|h<;>rcases h5 with h' | h' | h' | h' | ⟨h',_⟩|⟨h',_⟩|⟨h',h'',_⟩|⟨h',h''⟩|⟨h',h''⟩|h' | h'<;>omega
theorem HeadP.kind{k n:Int}{t:ByteArray}{ln dn:Nat}(h:HeadP k n t ln dn):1≤k∧k≤11:=by
 obtain⟨_,_,_,_,h5⟩:=h
 rcases h5 with h' | h' | h' | h' | ⟨h',_⟩|⟨h',_⟩|⟨h',h'',_⟩|⟨h',h''⟩|⟨h',h''⟩|h' | h'<;>omega
theorem encL_len:∀{l:List Val},(∀y∈l,(encV y).length+40≤8300*y.size)→(encL l).length≤8300*sizeL l
 | [],_=>by simp[encL,sizeL]
 | a::r,h=>by
  have h1:=h a (by simp)
  have h2:=encL_len (l:=r) fun y hy=>h y (by simp[hy])
  rw[encL,sizeL]
  simp
  omega
theorem name_len{s:ByteArray}(h:nameB s=true):(strN s).length≤32:=by
 simp only[nameB,Bool.and_eq_true,decide_eq_true_eq] at h
 have e:=dsize s
 unfold strN
 rw[List.length_map,e]
 exact h.1.1.2
theorem encD_len:∀{l:List Fld},(∀f∈l,nameB f.s=true∧(encV f.v).length+40≤8300*f.v.size)→(encD l).length≤8300*sizeL (l.map Fld.v)
 | [],_=>by simp[encD,sizeL]
 | a::r,h=>by
  obtain⟨h0,h1⟩:=h a (by simp)
  have h2:=encD_len (l:=r) fun y hy=>h y (by simp[hy])
  have h3:=name_len h0
  rw[encD,List.map_cons,sizeL,encF_eq]
  simp
  omega
theorem enc_len(x:Val):SoundV nameB x→(encV x).length+40≤8300*x.size:=by
 induction x using Val.ind with
 | h k n t l d ihl ihd=>
  intro hs
  obtain⟨hh,hl,hd,hn⟩:=(SoundV_iff nameB _).1 hs
  simp only[Val.k,Val.n,Val.t,Val.l,Val.d] at hh hl hd hn
  have ht:=hh.text
  have e:=size_parts (.mk k n t l d)
  rw[encV_eq,e]
  show(k::(if k=3∨k=9∨k=10 then nums n else if k=4∨k=7∨k=8 then textN t.data.toList++[0,0] else if k=6 then encL l++[0] else if k=5 then encD d++[0] else [])).length+40≤8300*(1+sizeL (if k=6 then l else if k=5 then d.map Fld.v else []))
  have hx:=textN_len t.data.toList
  by_cases h1:k=3∨k=9∨k=10
  ·rw[if_pos h1]
   have:=numsTo_len n 8
   simp only[List.length_cons,nums]
   omega
  rw[if_neg h1]
  by_cases h2:k=4∨k=7∨k=8
  ·rw[if_pos h2]
   simp only[List.length_cons,List.length_append,List.length_nil]
   omega
  rw[if_neg h2]
  by_cases h6:k=6
  ·rw[if_pos h6,if_pos h6]
   have:=encL_len (l:=l) fun y hy=>ihl y hy (hl y hy)
   simp only[List.length_cons,List.length_append,List.length_nil]
   omega
  rw[if_neg h6,if_neg h6]
  by_cases h5:k=5
  ·rw[if_pos h5,if_pos h5]
   have:=encD_len (l:=d) fun f hf=>⟨hn.1 f hf,ihd f hf (hd f hf)⟩
   simp only[List.length_cons,List.length_append,List.length_nil]
   omega
  ·rw[if_neg h5,if_neg h5]
   simp only[List.length_cons,List.length_nil]
   omega
def missB(x:Val):Bool:=decide (x.k=0)&&(decide (x.n=0)&&(decide (x.t.size=0)&&(decide (x.l.length=0)&&decide (x.d.length=0))))
noncomputable def allowB(x:Val):Bool:=missB x||validV x
def Enc1(x:Val):Prop:=missB x=true∨SoundV nameB x
theorem allow_enc{x:Val}(h:allowB x=true):Enc1 x∧(encV x).length≤8500000:=by
 unfold allowB at h
 rw[Bool.or_eq_true] at h
 rcases h with h|h
 ·refine⟨.inl h,?_⟩
  simp only[missB,Bool.and_eq_true,decide_eq_true_eq] at h
  rw[encV_eq,h.1]
  simp
 ·simp only[validV,Bool.and_eq_true,decide_eq_true_eq] at h
  have hs:=soundB_iff.1 h.2
  refine⟨.inr hs,?_⟩
  have:=enc_len x hs
  have:=h.1.1
  omega
theorem Enc1.kind{x:Val}(h:Enc1 x):0≤x.k∧x.k≤11:=by
 rcases h with h|h
 ·simp only[missB,Bool.and_eq_true,decide_eq_true_eq] at h
  omega
 ·have:=((SoundV_iff nameB x).1 h).1.kind
  omega
theorem Enc1.text{x:Val}(h:Enc1 x):x.t.size≤4096:=by
 rcases h with h|h
 ·simp only[missB,Bool.and_eq_true,decide_eq_true_eq] at h
  omega
 ·have:=((SoundV_iff nameB x).1 h).1.text
  rwa [dsize] at this
theorem Enc1.list{x:Val}(h:Enc1 x):∀y∈x.l,Enc1 y:=by
 intro y hy
 rcases h with h|h
 ·simp only[missB,Bool.and_eq_true,decide_eq_true_eq] at h
  have:=List.eq_nil_of_length_eq_zero h.2.2.2.1
  rw[this] at hy
  cases hy
 ·exact .inr (((SoundV_iff nameB x).1 h).2.1 y hy)
theorem Enc1.doc{x:Val}(h:Enc1 x):∀f∈x.d,Enc1 f.v∧nameB f.s=true:=by
 intro y hy
 rcases h with h|h
 ·simp only[missB,Bool.and_eq_true,decide_eq_true_eq] at h
  have:=List.eq_nil_of_length_eq_zero h.2.2.2.2
  rw[this] at hy
  cases hy
 ·exact⟨.inr (((SoundV_iff nameB x).1 h).2.2.1 y hy),((SoundV_iff nameB x).1 h).2.2.2.1 y hy⟩
def bytesC(l:List Int):List Value:=l.map (Value.int .u8)
theorem bytesC_app(l m:List Int):bytesC (l++m)=bytesC l++bytesC m:=by simp[bytesC]
theorem strOfNums_append(l m:List Int):strOfNums (l++m)=strOfNums l++strOfNums m:=by
 apply ByteArray.ext
 simp[strOfNums]
theorem strOfNums_strN(s:ByteArray):strOfNums (strN s)=s:=by
 apply ByteArray.ext
 apply Array.ext'
 simp only[strOfNums,strN,List.map_map,List.toList_toArray]
 conv=>rhs;rw[←List.map_id s.data.toList]
 apply List.map_congr_left
 intro x _
 simp
theorem strOfNums_nil:strOfNums []=ByteArray.empty:=rfl
theorem strN_len(s:ByteArray):(strN s).length=s.size:=by rw[strN,List.length_map,dsize]
theorem xor_top(a:Nat)(h:a<18446744073709551616):a ^^^ 9223372036854775808=(a+9223372036854775808)%18446744073709551616:=by
 have key:∀r,r<9223372036854775808→r ^^^ 9223372036854775808=r+9223372036854775808:=by
  intro r hr
  have e:=Nat.two_pow_add_eq_or_of_lt (i:=63) (a:=1) (b:=r) (by simpa using hr)
  rw[show r+9223372036854775808=2^63*1+r by omega,e]
  apply Nat.eq_of_testBit_eq
  intro i
  rw[Nat.testBit_xor,Nat.testBit_or,show(9223372036854775808:Nat)=2^63 from rfl,Nat.mul_one]
  rw[Nat.testBit_two_pow]
  by_cases hi:63=i
  ·subst hi
   rw[Nat.testBit_lt_two_pow hr]
   simp
  ·simp[hi]
 rcases Nat.lt_or_ge a 9223372036854775808 with hl|hg
 ·rw[key a hl]
  omega
 ·obtain⟨r,rfl⟩:∃r,a=r+9223372036854775808:=⟨a-9223372036854775808,by omega⟩
  have hr:r<9223372036854775808:=by omega
  rw[←key r hr,Nat.xor_assoc,Nat.xor_self,Nat.xor_zero,key r hr]
  omega
theorem info_u8:(Tryz.prog.info? 5).map (fun i=>(i.zero,i.size,i.bytes))=some (some (.int .u8 0),1,1):=by kernel_rfl
def AppOk(base:Nat)(v:Value)(l:List Int)(w:World)(e:Ending)(w':World):Prop:=
 ∃v':Value,e=.returned v'∧w'.ownsRow base 5 1 v' l.length (bytesC l)∧w.grownBy w' v.ownBlock∧(v'.ownBlock=v.ownBlock∨∃g,v'.ownBlock=some g∧w.heap.size≤g)
structure ApI(w:World)(c:VC)(base:Nat)(v0 v:Value)(n:Nat)(l:List Int)(wr:World):Prop where
 b0:Blk wr w.heap.size 45 c.arr
 own:wr.ownsRow base 5 1 v n (bytesC l)
 ln:n=l.length
 gb:w.grownBy wr v0.ownBlock
 sz:w.heap.size+1≤wr.heap.size
 old:∀g,v0.ownBlock=some g→base≤g∧g<w.heap.size
 blk:v.ownBlock=v0.ownBlock∨∃g,v.ownBlock=some g∧w.heap.size+1≤g
 ba:base≤w.heap.size
section
variable {w wr w':World} {c:VC} {base n n':Nat} {v0 v v':Value} {l l':List Int}
theorem ApI.below(h:ApI w c base v0 v n l wr):Below base w wr:=(Below.refl _ _).grown h.gb h.ba fun g hg=>(h.old g hg).1
theorem ApI.ba2(h:ApI w c base v0 v n l wr):base≤wr.heap.size:=by have:=h.ba;have:=h.sz;omega
theorem ApI.nrow(h:ApI w c base v0 v n l wr):v.ownBlock≠some w.heap.size:=by
 intro e
 rcases h.blk with h1|⟨g,h1,h2⟩
 ·rw[h1] at e
  have:=(h.old _ e).2
  omega
 ·rw[h1] at e
  injection e with e
  omega
theorem ApI.step(h:ApI w c base v0 v n l wr)(hb:Below wr.heap.size wr w'):ApI w c base v0 v n l w':=by
 have hs:=hb.size
 have h0:=h.sz
 refine⟨h.b0.step hb,own_step h.own hb,h.ln,⟨?_,?_,?_,?_,fun k hk hne=>?_⟩,by omega,h.old,h.blk,h.ba⟩
 ·rw[hb.os];exact h.gb.os
 ·rw[hb.tape];exact h.gb.tape
 ·rw[hb.output];exact h.gb.output
 ·have:=h.gb.size;omega
 ·rw[hb.block k (by omega)];exact h.gb.block k hk hne
theorem ApI.grow(h:ApI w c base v0 v n l wr)(hg:wr.grownBy w' v.ownBlock)(hv:v'.ownBlock=v.ownBlock∨∃g,v'.ownBlock=some g∧wr.heap.size≤g)(hn:n'=l'.length)(ho:w'.ownsRow base 5 1 v' n' (bytesC l')):ApI w c base v0 v' n' l' w':=by
 have hs:=hg.size
 have h0:=h.sz
 refine⟨(hg.block _ (by omega) (fun e=>h.nrow e.symm)).trans h.b0,ho,hn,⟨?_,?_,?_,by omega,fun k hk hne=>?_⟩,by omega,h.old,?_,h.ba⟩
 ·rw[hg.os];exact h.gb.os
 ·rw[hg.tape];exact h.gb.tape
 ·rw[hg.output];exact h.gb.output
 ·rw[hg.block k (by omega) (fun e=>?_)]
  ·exact h.gb.block k hk hne
  ·rcases h.blk with h1|⟨g,h1,h2⟩
   ·exact hne (by rw[←h1];exact e)
   ·rw[h1] at e
    injection e with e
    omega
 ·rcases hv with h1|⟨g,h1,h2⟩
  ·rw[h1];exact h.blk
  ·exact .inr ⟨g,h1,by omega⟩
theorem ApI.app(h:ApI w c base v0 v n l wr){o:Obj}{m:Nat}{xs:List Int}(hm:m=xs.length)(hn:n'=n+m)(ho:w'.ownsRow base 5 1 v' (n+m) (bytesC l++bytesC xs))(hg:(wr.alloc o).grownBy w' v.ownBlock)(hat:v'.ownBlock=v.ownBlock∨v'.ownBlock=some (wr.alloc o).heap.size):ApI w c base v0 v' n' (l++xs) w':=by
 subst hn
 refine(h.step ((Below.refl _ _).alloc (qL) o)).grow hg (hat.imp id fun e=>⟨_,e,qL⟩) (by rw[List.length_append,h.ln,hm]) ?_
 rw[bytesC_app]
 exact ho
theorem ApI.app0(h:ApI w c base v0 v n l wr){m:Nat}{xs:List Int}(hm:m=xs.length)(hn:n'=n+m)(ho:w'.ownsRow base 5 1 v' (n+m) (bytesC l++bytesC xs))(hg:wr.grownBy w' v.ownBlock)(hat:v'.ownBlock=v.ownBlock∨v'.ownBlock=some wr.heap.size):ApI w c base v0 v' n' (l++xs) w':=by
 subst hn
 refine h.grow hg (hat.imp id fun e=>⟨_,e,qL⟩) (by rw[List.length_append,h.ln,hm]) ?_
 rw[bytesC_app]
 exact ho
theorem ApI.call(h:ApI w c base v0 v n l wr){e:Ending}(ha:AppOk base v l' wr e w'):∃v',e=.returned v'∧ApI w c base v0 v' l'.length l' w':=by
 obtain⟨v',he,ho,hg,hb⟩:=ha
 exact⟨v',he,h.grow hg hb rfl ho⟩
theorem ApI.done(h:ApI w c base v0 v n l wr):AppOk base v0 l w (.returned v) wr:=⟨v,rfl,by rw[←h.ln];exact h.own,h.gb,h.blk.imp id fun⟨g,h1,h2⟩=>⟨g,h1,by omega⟩⟩
theorem ApI.start(hb:base≤w.heap.size)(hn:n=l.length)(ho:w.ownsRow base 5 1 v0 n (bytesC l)):ApI w c base v0 v0 n l (w.alloc (.cells c.arr 45)):=by
 have h1:Below w.heap.size w (w.alloc (.cells c.arr 45)):=(Below.refl _ _).alloc (qL) _
 exact⟨Blk.new_at rfl,own_step ho h1,hn,⟨h1.os,h1.tape,h1.output,h1.size,fun k hk _=>h1.block k hk⟩,by simp,fun g hg=>⟨own_ge ho g hg,own_lt ho hg⟩,.inl rfl,hb⟩
end
theorem reads1(w:World)(z:Int):Reads (w.alloc (.cells #[.int .u8 z] 5)) (w.heap.size+1) 1 (some ⟨w.heap.size,0,none⟩) 1 (bytesC [z]):=
 ⟨rfl,fun _=>⟨_,rfl,by show w.heap.size<w.heap.size+1;omega,fun j' u hu=>news_at w 5 (bytesC [z]) j' u hu⟩⟩
theorem reads2(w:World)(y z:Int):Reads (w.alloc (.cells #[.int .u8 y,.int .u8 z] 5)) (w.heap.size+1) 1 (some ⟨w.heap.size,0,none⟩) 2 (bytesC [y,z]):=
 ⟨rfl,fun _=>⟨_,rfl,by show w.heap.size<w.heap.size+1;omega,fun j' u hu=>news_at w 5 (bytesC [y,z]) j' u hu⟩⟩
theorem bytesC_one(l:List Int):∀u∈bytesC l,u.oneCell'=true:=by
 intro u hu
 simp only[bytesC,List.mem_map] at hu
 obtain⟨z,_,rfl⟩:=hu
 rfl
theorem append_str_blk{P:Program}(w:World)(base:Nat)(t u ty e:TypeId)(i:TypeInfo)(ht:P.underlying t=some (.slice e))(hu:P.underlying u=some .string)(hi:P.info? e=some i)(hz:i.zero=some (.int .u8 0))(hsize:i.size=1)(hby:i.bytes=1)(v:Value)(n:Nat)(xs:List Value)(hown:w.ownsRow base e 1 v n xs)(s:ByteArray)(h63:n+s.size≤maxLen)(hbytes:n+s.size≤140737488355328){v':Value}{w':World}(hrun:(Builtin.append_ #[t,u] ty #[v,.string s]).run P w=.ok v' w')(hnil:v'=.slice none 0 0↔v=.slice none 0 0∧s.size=0):v'.ownBlock=v.ownBlock∨v'.ownBlock=some w.heap.size:=by
 have hsmall:n+s.size≤9223372036854775807:=by simp only[maxLen] at h63;omega
 rcases hown.2 with⟨rfl,rfl⟩|⟨g,cap,cur,rfl,hbg,hg,hnc,hcm,hcs,htake⟩
 ·by_cases hm:s.size=0
  ·rw[hnil.2 ⟨rfl,hm⟩]
   exact .inl rfl
  ·have hr:=run_append_nil_string (P:=P) w t u ty e i (.int .u8 0) ht hu hi hz s (by omega) (by omega) (by rw[hby];omega)
   rw[hr] at hrun
   cases hrun
   exact .inr rfl
 ·by_cases hroom:n+s.size≤cap
  ·have hcs':cur.size=cap:=by simpa using hcs
   have hr:=Lib.run_append_room_string (P:=P) w t u ty e i ht hu hi hsize g n cap cur hg s hroom (by omega)
   rw[hr] at hrun
   cases hrun
   exact .inl rfl
  ·have hxl:xs.length=n:=by simpa using hown.1
   have hr:=Lib.run_append_grow_string (P:=P) w t u ty e i (.int .u8 0) ht hu hi hz ⟨g,0,none⟩ n cap xs (by rw[hsize];simpa using hxl) (hown.cells (g:=g) rfl) s (by omega) (by omega) (by rw[hby];exact growslice_fits (by omega) (by omega))
   rw[hr] at hrun
   cases hrun
   exact .inr rfl
theorem wpList_append_str{P:Program}{w:World}{ops:Array Oper}{rest:List Oper}{o:Oper}{a:Act}{Q:Exit→Act→World→Prop}(hgd:o.guard=none)(sl x:Operand)(t u:TypeId)(ho:o.op=.call {callee:=.builtin .append,args:=#[sl,x],argTypes:=#[t,u]})(base:Nat)(e:TypeId)(i:TypeInfo)(ht:P.underlying t=some (.slice e))(hu:P.underlying u=some .string)(hi:P.info? e=some i)(hz:i.zero=some (.int .u8 0))(hsize:i.size=1)(hby:i.bytes=1)(v:Value)(n:Nat)(xs:List Value)(hs:a.eval sl=v)(hown:w.ownsRow base e 1 v n xs)(s:ByteArray)(hx:a.eval x=.string s)(h63:n+s.size≤maxLen)(hbytes:n+s.size≤140737488355328)(hbase:base≤w.heap.size)(h:∀v' w',w'.ownsRow base e 1 v' (n+s.size) (xs++Lib.strCells s)→w.grownBy w' v.ownBlock→(v'.ownBlock=v.ownBlock∨v'.ownBlock=some w.heap.size)→wpList P ops Q rest (a.put o.dst v') w'):wpList P ops Q (o::rest) a w:=by
 refine wpList_plain hgd fun K hK=>?_
 obtain⟨v',w',hr,h2,h3,h4⟩:=Lib.run_append_own_string (P:=P) w base t u o.type e i ht hu hi hz hsize hby v n xs hown s h63 hbytes hbase
 have h5:=append_str_blk w base t u o.type e i ht hu hi hz hsize hby v n xs hown s h63 hbytes hr h4
 unfold Oper.wp execOp
 simp only[ho,resolve,invoke,builtin,Sem.run_bind,Sem.run_pure,Result.andThen_ok,List.map_toArray,List.map_cons,List.map_nil,hs,hx,hr]
 exact hK _ _ (h v' w' h2 h3 h5)
theorem strCells_eq(s:ByteArray):Lib.strCells s=bytesC (strN s):=by
 unfold Lib.strCells bytesC strN
 rw[List.map_map]
 rfl
end Go.Proofs.YtlicnjecnehaoaaGreatDoor
