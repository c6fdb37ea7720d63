/- Parts of the proof, joined: MrSt, MrOne, MrOpen, ChValid, ChRefValid, MrGood, MrCallA, MrCall0. -/
import Derived.Test.YtlicnjecnehaoaaGreatDoorRa1
import Derived.Test.YtlicnjecnehaoaaGreatDoorRa23
import Derived.Test.YtlicnjecnehaoaaGreatDoorRa14
import Derived.Test.YtlicnjecnehaoaaGreatDoorRa17
import Derived.Test.YtlicnjecnehaoaaGreatDoorRa20
import Derived.Test.YtlicnjecnehaoaaGreatDoorRows
import Derived.Test.YtlicnjecnehaoaaGreatDoorRa15
import Derived.Test.YtlicnjecnehaoaaGreatDoorRa5
import Derived.Test.YtlicnjecnehaoaaGreatDoorRa7
import Derived.Test.YtlicnjecnehaoaaGreatDoorRa11
import Derived.Test.YtlicnjecnehaoaaGreatDoorRa22
import Derived.Deep.RegionHeld3
set_option maxRecDepth 100000
set_option maxHeartbeats 16000000
set_option linter.unusedSimpArgs false
namespace Go.Proofs.YtlicnjecnehaoaaGreatDoor
open Go.RowKit
theorem smV_id{x:Val}(h:StoD x)(hs:SmV x):SmV (idV x):=by
 obtain⟨hk,f,hf,hfs⟩:=h
 rw[StoD.id hk hf hfs]
 exact smV_fld hs hf
theorem smW_put{sp:ByteArray}{x:Val}(h:StoD x)(hs:SmV x):SmW (putW sp x):=⟨smV_id h hs,hs⟩
theorem smW_rem{sp:ByteArray}{k:Val}(hs:SmV k):SmW (remW sp k):=⟨hs,smV_zero⟩
structure StR(n:Nat)(R0:Ro)(M:Mv)(ma:MA)(R:Ro):Prop where
 lo:M.lo.size≤reach
 cp:M.cp.length≤20
 ch:M.ch.length≤n
 sm:∀x,x∈M.cp∨x∈M.ch→SmW x
 s1:M.st=1→M.cp=[]∧M.ch=[]∧ma=MA.zero
 gv:M.st=1∨M.st=2→(giveR R M.lo M.tt).2=0∧R.cs.length≤80
 ks:R.ks=R0.ks
 ha:R.ha=R0.ha
 sp:R.sp=R0.sp
theorem StR.up{n:Nat}{R0:Ro}{M:Mv}{ma:MA}{R:Ro}(h:StR n R0 M ma R):StR (n+1) R0 M ma R:=⟨h.lo,h.cp,Nat.le_succ_of_le h.ch,h.sm,h.s1,h.gv,h.ks,h.ha,h.sp⟩
theorem give_parts{R:Ro}{lo:ByteArray}{t:Int}(h:(giveR R lo t).2=0):(giveR R lo t).1.ks=R.ks∧(giveR R lo t).1.ha=R.ha∧(giveR R lo t).1.sp=R.sp:=by
 revert h
 unfold giveR
 split
 ·intro h;exact absurd h (by decide)
 ·split
  ·intro h;exact absurd h (by decide)
  ·split
   ·intro h;exact absurd h (by decide)
   ·split
    ·intro h;exact absurd h (by decide)
    ·intro _;exact⟨rfl,rfl,rfl⟩
def SameM(M N:Mv):Prop:=N.sp=M.sp∧N.lo=M.lo∧N.hi=M.hi
theorem mem_copyL{R:Ro}{sp lo hi:ByteArray}{L:List Val}{x:Wt}(h:x∈copyL R sp lo hi L):∃d∈L,x=putW sp d:=by
 unfold copyL at h
 obtain⟨d,hd,rfl⟩:=List.mem_map.1 h
 exact⟨d,(List.mem_filter.1 hd).1,rfl⟩
theorem StR.copy{n:Nat}{R0:Ro}{M:Mv}{ma:MA}{R:Ro}{L:List Val}(h:StR n R0 M ma R)(hL:L.length≤20)(hs:∀d∈L,StoD d∧SmV d):
 (∀x,x∈(copyM M R L).1.cp∨x∈(copyM M R L).1.ch→SmW x)∧((copyM M R L).2=0→SameM M (copyM M R L).1∧∀mb,StR (n+1) R0 (copyM M R L).1 mb R):=by
 unfold copyM
 by_cases h1:M.st=1
 ·rw[if_pos h1]
  obtain⟨h2,h3,_⟩:=h.s1 h1
  have sm:∀x,x∈copyL R M.sp M.lo M.hi L∨x∈M.ch→SmW x:=by
   rintro x (hx|hx)
   ·obtain⟨d,hd,rfl⟩:=mem_copyL hx
    exact smW_put (hs d hd).1 (hs d hd).2
   ·exact h.sm x (.inr hx)
  refine⟨sm,fun _=>⟨⟨rfl,rfl,rfl⟩,fun mb=>⟨h.lo,Nat.le_trans (copyL_len _ _ _ _ _) hL,Nat.le_succ_of_le h.ch,sm,fun e=>absurd e (by show ¬(2:Int)=1;decide),fun _=>h.gv (.inl h1),h.ks,h.ha,h.sp⟩⟩⟩
 ·rw[if_neg h1]
  exact⟨fun x hx=>by simp[Mv.zero] at hx,fun e=>absurd e (by show ¬(23:Int)=0;decide)⟩
theorem noteX_mem{R:Ro}{sp lo hi:ByteArray}{x:Wx}{y:Wt}(h:y∈noteX R sp lo hi x):(y=putW sp x.doc∧x.kd=2)∨y=remW sp x.key:=by
 unfold noteX noteL at h
 split at h
 ·split at h
  ·rename_i h2
   simp at h
   exact .inl ⟨h,h2.1⟩
  ·split at h
   ·simp at h;exact .inr h
   ·simp at h
 ·simp at h
theorem noteX_len(R:Ro)(sp lo hi:ByteArray)(x:Wx):(noteX R sp lo hi x).length≤1:=by
 unfold noteX noteL
 split
 ·split
  ·simp
  ·split<;>simp
 ·simp
theorem StR.noted{n:Nat}{R0:Ro}{M:Mv}{ma:MA}{R:Ro}{x:Wx}(h:StR n R0 M ma R)(h1:x.kd=2→StoD x.doc)(h2:SmV x.doc)(h3:SmV x.key):
 (∀y,y∈(noteM M R x).1.cp∨y∈(noteM M R x).1.ch→SmW y)∧((noteM M R x).2=0→SameM M (noteM M R x).1∧∀mb,StR (n+1) R0 (noteM M R x).1 mb R):=by
 unfold noteM
 by_cases hs:M.st=2
 ·rw[if_pos hs]
  have sm:∀y,y∈M.cp∨y∈M.ch++noteX R M.sp M.lo M.hi x→SmW y:=by
   rintro y (hy|hy)
   ·exact h.sm y (.inl hy)
   ·rcases List.mem_append.1 hy with hy|hy
    ·exact h.sm y (.inr hy)
    ·rcases noteX_mem hy with⟨rfl,hk⟩|rfl
     ·exact smW_put (h1 hk) h2
     ·exact smW_rem h3
  refine⟨sm,fun _=>⟨⟨rfl,rfl,rfl⟩,fun mb=>⟨h.lo,h.cp,?_,sm,fun e=>absurd e (by show ¬(2:Int)=1;decide),fun _=>h.gv (.inr hs),h.ks,h.ha,h.sp⟩⟩⟩
  show(M.ch++noteX R M.sp M.lo M.hi x).length≤n+1
  rw[List.length_append]
  have:=noteX_len R M.sp M.lo M.hi x
  have:=h.ch
  omega
 ·rw[if_neg hs]
  exact⟨fun x hx=>by simp[Mv.zero] at hx,fun e=>absurd e (by show ¬(23:Int)=0;decide)⟩
theorem StR.loaded{n:Nat}{R0:Ro}{M:Mv}{ma:MA}{R:Ro}(h:StR n R0 M ma R):
 (∀y,y∈(loadM2 M).1.cp∨y∈(loadM2 M).1.ch→SmW y)∧(∀y∈(loadM2 M).2.1,SmW y)∧((loadM2 M).2.2=0→SameM M (loadM2 M).1∧∀mb,StR (n+1) R0 (loadM2 M).1 mb R):=by
 unfold loadM2
 by_cases hs:M.st=2
 ·rw[if_pos hs]
  refine⟨fun y hy=>by simp at hy,fun y hy=>h.sm y (List.mem_append.1 hy),fun _=>⟨⟨rfl,rfl,rfl⟩,fun mb=>⟨h.lo,Nat.zero_le _,Nat.zero_le _,fun y hy=>by simp at hy,fun e=>absurd e (by show ¬(2:Int)=1;decide),fun _=>h.gv (.inr hs),h.ks,h.ha,h.sp⟩⟩⟩
 ·rw[if_neg hs]
  exact⟨fun x hx=>by simp[Mv.zero] at hx,fun x hx=>by simp at hx,fun e=>absurd e (by show ¬(23:Int)=0;decide)⟩
theorem StR.commit{n:Nat}{R0:Ro}{M:Mv}{ma:MA}{R:Ro}(h:StR n R0 M ma R):
 (∀y,y∈(commitM M R).1.cp∨y∈(commitM M R).1.ch→SmW y)∧((commitM M R).2.2=0→SameM M (commitM M R).1∧(commitM M R).2.1.ks=R.ks∧(commitM M R).2.1.sp=R.sp∧∀mb,StR (n+1) R0 (commitM M R).1 mb (commitM M R).2.1):=by
 unfold commitM
 by_cases hs:M.st=2∧M.cp=[]∧M.ch=[]
 ·rw[if_pos hs]
  obtain⟨e1,e2,e3⟩:=give_parts (h.gv (.inr hs.1)).1
  refine⟨fun y hy=>by simp at hy,fun _=>⟨⟨rfl,rfl,rfl⟩,e1,e3,fun mb=>⟨h.lo,Nat.zero_le _,Nat.zero_le _,fun y hy=>by simp at hy,fun e=>absurd e (by show ¬(4:Int)=1;decide),fun e=>?_,e1.trans h.ks,e2.trans h.ha,e3.trans h.sp⟩⟩⟩
  rcases e with e|e
  ·exact absurd e (by show ¬(4:Int)=1;decide)
  ·exact absurd e (by show ¬(4:Int)=2;decide)
 ·rw[if_neg hs]
  exact⟨fun x hx=>by simp[Mv.zero] at hx,fun e=>absurd e (by show ¬(23:Int)=0;decide)⟩
theorem StR.abort{n:Nat}{R0:Ro}{M:Mv}{ma:MA}{R:Ro}(h:StR n R0 M ma R):
 (∀y,y∈(abortM M).1.cp∨y∈(abortM M).1.ch→SmW y)∧((abortM M).2=0→SameM M (abortM M).1∧∀mb,StR (n+1) R0 (abortM M).1 mb R):=by
 unfold abortM
 by_cases hs:M.st=4∨M.st=5
 ·rw[if_pos hs]
  exact⟨fun x hx=>by simp[Mv.zero] at hx,fun e=>absurd e (by show ¬(23:Int)=0;decide)⟩
 ·rw[if_neg hs]
  refine⟨fun y hy=>by simp at hy,fun _=>⟨⟨rfl,rfl,rfl⟩,fun mb=>⟨h.lo,Nat.zero_le _,Nat.zero_le _,fun y hy=>by simp at hy,fun e=>absurd e (by show ¬(5:Int)=1;decide),fun e=>?_,h.ks,h.ha,h.sp⟩⟩⟩
  rcases e with e|e
  ·exact absurd e (by show ¬(5:Int)=1;decide)
  ·exact absurd e (by show ¬(5:Int)=2;decide)
theorem sm_orph{M:Mv}{R:Ro}{L:List Val}{l:List Wt}(hs:∀d∈L,StoD d∧SmV d)(h:StW (if M.st=4∨M.st=5 then remL R M.sp M.lo M.hi L else []) l):∀x∈l,SmW x:=by
 intro x hx
 have h2:=h.perm.mem_iff.1 hx
 split at h2
 ·unfold remL at h2
  obtain⟨d,hd,rfl⟩:=List.mem_map.1 h2
  have hd2:=hs d ((List.mem_filter.1 hd).1)
  exact smW_rem (smV_id hd2.1 hd2.2)
 ·simp at h2
theorem RR.keep_r{w w':World}{a b:RA}{R S:Ro}{g:Nat}{t:TypeId}(h:RR w b S)(hp:∀q∈S.ks,pathB q.p=true)(hs:w.heap.size≤w'.heap.size)(ho:∀k,k≠g→w'.heap[k]?=w.heap[k]?)(B:Blk w g t (rarr a R))(hR:RR w a R)(hk:0<R.ks.length)(hc9:w'.cell? ⟨g,0,none⟩=some (.string R.sp)):RR w' b S:=by
 have cells:∀off v,w.cell? ⟨g,off,none⟩=some v→(off=0∧v=.string R.sp)∨(off=1∧v=.slice a.KA a.kn a.kc)∨(off=2∧v=.bool R.ha)∨(off=3∧v=.int .i64 R.ep)∨(off=4∧v=.int .i64 R.ver)∨(off=5∧v=.slice a.CA a.cn a.cc):=by
  intro off v hv
  rw[B.cell] at hv
  match off,hv with
  | 0,hv=>simp[rarr] at hv;simp[hv]
  | 1,hv=>simp[rarr] at hv;simp[hv]
  | 2,hv=>simp[rarr] at hv;simp[hv]
  | 3,hv=>simp[rarr] at hv;simp[hv]
  | 4,hv=>simp[rarr] at hv;simp[hv]
  | 5,hv=>simp[rarr] at hv;simp[hv]
  | k+6,hv=>simp[rarr] at hv
 obtain⟨os',k'⟩:=hR.ks
 refine⟨h.sp,?_,⟨h.cs.sr.keep_but hs ho fun b off hn _ hc e=>?_,h.cs.sz⟩⟩
 ·obtain⟨os,k⟩:=h.ks
  refine⟨os,k.sr.keep_but hs ho fun b off hn _ hc e=>?_,k.sz,k.ln,fun i o q hi hq=>⟨(k.el i o q hi hq).d,?_⟩⟩
  ·subst e
   have hl:0<os.length:=by have:=k.sr.ln;omega
   have hl2:0<S.ks.length:=by have:=k.ln;omega
   have e0:=List.getElem?_eq_getElem hl
   have e1:=List.getElem?_eq_getElem hl2
   have st:=(k.el 0 _ _ e0 e1).st
   have hpp:=hp _ (List.getElem_mem hl2)
   simp only[pathB,Bool.and_eq_true,decide_eq_true_eq] at hpp
   have c0:=hc 0 _ e0 0 _ rfl
   have c1:=hc 0 _ e0 1 _ rfl
   rcases cells _ _ c0 with⟨_,h⟩|⟨ho1,h⟩|⟨_,h⟩|⟨_,h⟩|⟨_,h⟩|⟨ho1,h⟩
   ·cases h
   ·injection h with h1 h2 h3
    obtain⟨bb,oo,he,hl3,hc3⟩:=st.sr.el (by have:=st.sr.ln;omega)
    have hkn:0<a.kn:=by have:=k'.sr.ln;have:=k'.ln;omega
    obtain⟨bb',oo',he',_,hc4⟩:=k'.sr.el hkn
    rw[h1,he'] at he
    cases he
    obtain⟨s0,hs0⟩:∃s,(S.ks[0]).p[0]?=some s:=⟨_,List.getElem?_eq_getElem (show 0<(S.ks[0]).p.length from by have:=hpp.1.1;omega)⟩
    obtain⟨o0,ho0⟩:∃o,os'[0]?=some o:=⟨_,List.getElem?_eq_getElem (by have:=k'.ln;omega)⟩
    have d0:=hc3 0 _ hs0 0 _ rfl
    have d1:=hc4 0 _ ho0 0 _ rfl
    simp only[Nat.zero_mul] at d0 d1
    rw[d0] at d1
    cases d1
   ·cases h
   ·cases h
   ·cases h
   ·rcases cells _ _ c1 with⟨h2,_⟩|⟨h2,_⟩|⟨h2,_⟩|⟨h2,_⟩|⟨h2,_⟩|⟨h2,_⟩<;>omega
  ·have st:=(k.el i o q hi hq).st
   have hpp:=hp q (List.mem_of_getElem? hq)
   refine⟨⟨st.sr.ln,st.sr.lc,fun hn=>?_⟩,st.sz,st.el⟩
   obtain⟨b,off,e,hl,hc2⟩:=st.sr.el hn
   refine⟨b,off,e,Nat.lt_of_lt_of_le hl hs,fun i x hi j v hj=>?_⟩
   by_cases hb:b=g
   ·subst hb
    cases j with
    | zero=>
     simp[recT] at hj
     subst hj
     have c0:=hc2 i x hi 0 _ rfl
     rcases cells _ _ c0 with⟨h2,h⟩|⟨_,h⟩|⟨_,h⟩|⟨_,h⟩|⟨_,h⟩|⟨_,h⟩
     ·rw[h2,hc9,←h]
     all_goals cases h
    | succ j=>simp[recT] at hj
   ·exact(World.cell?_of_block (a:=⟨b,off+i*1+j,none⟩) (ho b hb)).trans (hc2 i x hi j v hj)
 ·subst e
  have hl:0<S.cs.length:=by have:=h.cs.ln;omega
  have e0:=List.getElem?_eq_getElem hl
  have c0:=hc 0 _ e0 0 _ rfl
  have c1:=hc 0 _ e0 1 _ rfl
  rcases cells _ _ c0 with⟨h2,_⟩|⟨_,h⟩|⟨_,h⟩|⟨_,h⟩|⟨_,h⟩|⟨_,h⟩
  ·rcases cells _ _ c1 with⟨h3,_⟩|⟨_,h⟩|⟨_,h⟩|⟨_,h⟩|⟨_,h⟩|⟨_,h⟩
   ·omega
   all_goals cases h
  all_goals cases h
open Go.ChangeShapes Go.WideShapes Go.ChangeAt Go.Joins Go.Deep
section
variable (H:Type) (enc:TypeId×Value→H) (W:World) (base:Nat) (spare:Nat→Bool) (held:Bool)
def OneT(t:TypeId):Prop:=∀(fuel:Nat) (cs:List Value) (y:DataW H×List MemPlace),DataW.trod enc Tryz.prog W base spare held fuel t cs=some y→∀u∈cs,u.oneCell'=true
variable {H enc W base spare held}
theorem one_int{t:TypeId}{k:IntKind}(hu:Tryz.prog.underlying t=some (.int k)):OneT H enc W base spare held t:=fun fuel cs y h u hu2=>by
 obtain⟨n,rfl,_⟩:=DataW.trod_int hu h
 simp at hu2
 subst hu2
 rfl
theorem one_str{t:TypeId}(hu:Tryz.prog.underlying t=some .string):OneT H enc W base spare held t:=fun fuel cs y h u hu2=>by
 obtain⟨n,rfl,_⟩:=DataW.trod_string hu h
 simp at hu2
 subst hu2
 rfl
theorem one_bool{t:TypeId}(hu:Tryz.prog.underlying t=some .bool):OneT H enc W base spare held t:=fun fuel cs y h u hu2=>by
 obtain⟨n,rfl,_⟩:=DataW.trod_bool hu h
 simp at hu2
 subst hu2
 rfl
theorem one_slice{t e:TypeId}(hu:Tryz.prog.underlying t=some (.slice e)):OneT H enc W base spare held t:=fun fuel cs y h u hu2=>by
 rcases DataW.trod_slice hu h with⟨rfl,_⟩|⟨a,len,cap,elems,rest,n',_,rfl,_⟩
 ·simp at hu2;subst hu2;rfl
 ·simp at hu2;subst hu2;rfl
noncomputable def coverB(t:TypeId)(fs:Array Field)(ts:List TypeId):Bool:=
 ((List.range (Tryz.prog.cellsOf t)).all fun j=>fs.toList.any fun f=>decide (f.offset≤j)&&decide (j<f.offset+Tryz.prog.cellsOf f.type))&&fs.toList.all fun f=>ts.contains f.type
theorem one_struct{t:TypeId}{fs:Array Field}(hu:Tryz.prog.underlying t=some (.struct fs))(ts:List TypeId)(hts:∀e∈ts,OneT H enc W base spare held e)(hc:coverB t fs ts=true):OneT H enc W base spare held t:=fun fuel cs y h u hu2=>by
 obtain⟨ys,n,rfl,rfl,hcl,hyl,hf⟩:=DataW.trod_struct hu h
 simp only[coverB,Bool.and_eq_true,List.all_eq_true,List.any_eq_true,List.mem_range,decide_eq_true_eq,List.contains_iff_mem] at hc
 obtain⟨j,hj⟩:=List.mem_iff_getElem?.1 hu2
 have hjl:j<Tryz.prog.cellsOf t:=by rw[←hcl];exact(List.getElem?_eq_some_iff.1 hj).1
 obtain⟨f,hfm,h1,h2⟩:=hc.1 j hjl
 obtain⟨i,hi⟩:=List.mem_iff_getElem?.1 hfm
 have hi2:fs[i]?=some f:=by simpa using hi
 have hil:i<ys.length:=by rw[hyl];have:=(List.getElem?_eq_some_iff.1 hi).1;simpa using this
 have h3:=hf i f hi2
 rw[List.getElem?_eq_getElem hil] at h3
 refine hts f.type (hc.2 f hfm) _ _ _ h3 u (List.mem_iff_getElem?.2 ⟨j-f.offset,?_⟩)
 rw[List.getElem?_take,if_pos (by omega),List.getElem?_drop,show f.offset+(j-f.offset)=j from by omega]
 exact hj
theorem one_value:OneT H enc W base spare held 45:=one_struct Tryz.underlying45 [3,9,42,43] (by
 intro e he
 simp only[List.mem_cons,List.not_mem_nil,or_false] at he
 rcases he with rfl|rfl|rfl|rfl
 ·exact one_int Tryz.underlying3
 ·exact one_str Tryz.underlying9
 ·exact one_slice Tryz.underlying42
 ·exact one_slice Tryz.underlying43) (by kernel_rfl)
theorem one_shape:OneT H enc W base spare held 56:=one_struct Tryz.underlying56 [3,54] (by
 intro e he
 simp only[List.mem_cons,List.not_mem_nil,or_false] at he
 rcases he with rfl|rfl
 ·exact one_int Tryz.underlying3
 ·exact one_slice Tryz.underlying54) (by kernel_rfl)
theorem one_expr:OneT H enc W base spare held 59:=one_struct Tryz.underlying59 [3,9,47,45,57] (by
 intro e he
 simp only[List.mem_cons,List.not_mem_nil,or_false] at he
 rcases he with rfl|rfl|rfl|rfl|rfl
 ·exact one_int Tryz.underlying3
 ·exact one_str Tryz.underlying9
 ·exact one_slice Tryz.underlying47
 ·exact one_value
 ·exact one_slice Tryz.underlying57) (by kernel_rfl)
theorem one_pred:OneT H enc W base spare held 62:=one_struct Tryz.underlying62 [3,47,45,42,56,59,60] (by
 intro e he
 simp only[List.mem_cons,List.not_mem_nil,or_false] at he
 rcases he with rfl|rfl|rfl|rfl|rfl|rfl|rfl
 ·exact one_int Tryz.underlying3
 ·exact one_slice Tryz.underlying47
 ·exact one_value
 ·exact one_slice Tryz.underlying42
 ·exact one_shape
 ·exact one_expr
 ·exact one_slice Tryz.underlying60) (by kernel_rfl)
theorem one_index:OneT H enc W base spare held 64:=one_struct Tryz.underlying64 [3,9,4,22,62] (by
 intro e he
 simp only[List.mem_cons,List.not_mem_nil,or_false] at he
 rcases he with rfl|rfl|rfl|rfl|rfl
 ·exact one_int Tryz.underlying3
 ·exact one_str Tryz.underlying9
 ·exact one_bool Tryz.underlying4
 ·exact one_slice Tryz.underlying22
 ·exact one_pred) (by kernel_rfl)
theorem one_schema:OneT H enc W base spare held 51:=one_struct Tryz.underlying51 [3,4,45,42,47,48,49] (by
 intro e he
 simp only[List.mem_cons,List.not_mem_nil,or_false] at he
 rcases he with rfl|rfl|rfl|rfl|rfl|rfl|rfl
 ·exact one_int Tryz.underlying3
 ·exact one_bool Tryz.underlying4
 ·exact one_value
 ·exact one_slice Tryz.underlying42
 ·exact one_slice Tryz.underlying47
 ·exact one_slice Tryz.underlying48
 ·exact one_slice Tryz.underlying49) (by kernel_rfl)
theorem one_space:OneT H enc W base spare held 53:=one_struct Tryz.underlying53 [3,9,46,51] (by
 intro e he
 simp only[List.mem_cons,List.not_mem_nil,or_false] at he
 rcases he with rfl|rfl|rfl|rfl
 ·exact one_int Tryz.underlying3
 ·exact one_str Tryz.underlying9
 ·exact one_slice Tryz.underlying46
 ·exact one_schema) (by kernel_rfl)
theorem one_write:OneT H enc W base spare held 67:=one_struct Tryz.underlying67 [3,9,4,45,53,64,33,65] (by
 intro e he
 simp only[List.mem_cons,List.not_mem_nil,or_false] at he
 rcases he with rfl|rfl|rfl|rfl|rfl|rfl|rfl|rfl
 ·exact one_int Tryz.underlying3
 ·exact one_str Tryz.underlying9
 ·exact one_bool Tryz.underlying4
 ·exact one_value
 ·exact one_space
 ·exact one_index
 ·exact one_slice Tryz.underlying33
 ·exact one_slice Tryz.underlying65) (by kernel_rfl)
theorem one_op:OneT H enc W base spare held 69:=one_struct Tryz.underlying69 [3,42,67] (by
 intro e he
 simp only[List.mem_cons,List.not_mem_nil,or_false] at he
 rcases he with rfl|rfl|rfl
 ·exact one_int Tryz.underlying3
 ·exact one_slice Tryz.underlying42
 ·exact one_write) (by kernel_rfl)
end
theorem codeL_bulk{H:Type}:∀(l:List Val) (ds:List (DataW H)),l.length=ds.length→(∀(i:Nat) (x:Val) (d:DataW H),l[i]?=some x→ds[i]?=some d→(codeV x).size≤100*Rows.uptoBulk d)→(codeL l).size≤100*Rows.uptoBulkAll ds
 | [],_,_,_=>Nat.zero_le _
 | x::r,[],h,_=>by simp at h
 | x::r,d::ds,h,hb=>by
  have h1:=hb 0 x d rfl rfl
  have h2:=codeL_bulk r ds (by simpa using h) fun i y e hi he=>hb (i+1) y e (by simpa using hi) (by simpa using he)
  rw[codeL,ByteArray.size_append,Rows.uptoBulkAll]
  omega
theorem codeD_bulk{H:Type}:∀(l:List Fld) (ds:List (DataW H)),l.length=ds.length→(∀(i:Nat) (x:Fld) (d:DataW H),l[i]?=some x→ds[i]?=some d→(codeF x).size≤100*Rows.uptoBulk d)→(codeD l).size≤100*Rows.uptoBulkAll ds
 | [],_,_,_=>Nat.zero_le _
 | x::r,[],h,_=>by simp at h
 | x::r,d::ds,h,hb=>by
  have h1:=hb 0 x d rfl rfl
  have h2:=codeD_bulk r ds (by simpa using h) fun i y e hi he=>hb (i+1) y e (by simpa using hi) (by simpa using he)
  rw[codeD,ByteArray.size_append,Rows.uptoBulkAll]
  omega
section
variable {H:Type} {enc:TypeId×Value→H} {W:World} {base:Nat} {spare:Nat→Bool} {held:Bool}
def ReadsB(H:Type)(enc:TypeId×Value→H)(W:World)(base:Nat)(spare:Nat→Bool)(held:Bool)(n:Nat):Prop:=
 ∀(cs:List Value) (y:DataW H×List MemPlace),DataW.trod enc Tryz.prog W base spare held n 45 cs=some y→Light 45 y.1→∃c x,cs=c.list∧RW W c x∧(codeV x).size≤100*Rows.uptoBulk y.1
theorem bread_list(n:Nat){v:Value}{y:DataW H×List MemPlace}(ih:∀n',n'<n→ReadsB H enc W base spare held n')(h:DataW.trod enc Tryz.prog W base spare held n 42 [v]=some y)(hw:Light 42 y.1):
 ∃(LA:Option Addr) (ln lc:Nat) (l:List Val),v=.slice LA ln lc∧ln=l.length∧ln≤lc∧ln*80≤reach∧(0<ln→∃b off,LA=some ⟨b,off,none⟩∧∀(i:Nat) (y:Val),l[i]?=some y→∃e,VAt W b (off+i*5) e∧RW W e y)∧(codeL l).size≤100*Rows.uptoBulk y.1:=by
 rcases DataW.trod_slice Tryz.underlying42 h with⟨hcs,_⟩|⟨a,len,cap,elems,rest,n',rfl,hcs,rfl,_,hlc,hcm,hel,hat,_,_⟩
 ·simp at hcs
  exact⟨none,0,0,[],hcs,rfl,qL,by decide,fun h=>absurd h (by omega),Nat.zero_le _⟩
 ·simp at hcs
  subst hcs
  simp only[Light,DataW.weights,Tryz.underlying42,List.mem_cons,List.mem_append,bytes_value] at hw
  have hsz:len*80≤reach:=by
   have:=hw _ (.inl rfl)
   simp only[List.length_map,hel] at this
   have h2:len*80≤(len+rest.length)*80:=Nat.mul_le_mul_right _ (by omega)
   have:=le_reach
   omega
  have wl:=light_all (l:=elems.map (·.1)) (fun z hz=>hw z (.inr (.inl hz)))
  rcases Nat.eq_zero_or_pos len with h0|hp
  ·exact⟨some a,len,cap,[],rfl,h0,hlc,hsz,fun h=>absurd h (by omega),Nat.zero_le _⟩
  have step:∀i,i<len→∃cs',W.cells? base (a.add (i*5)) 5=some cs'∧∃e x,cs'=VC.list e∧RW W e x∧∀d,(elems.map (·.1))[i]?=some d→(codeV x).size≤100*Rows.uptoBulk d:=by
   intro i hi
   have h1:=hat i hi
   rw[cells_value,List.getElem?_eq_getElem (by omega)] at h1
   obtain⟨cs',hcs',ht'⟩:=Option.bind_eq_some_iff.1 h1
   obtain⟨e,x,he,hx,hnx⟩:=ih n' (by omega) cs' _ ht' (wl _ (List.mem_map_of_mem (List.getElem_mem _)))
   refine⟨cs',hcs',e,x,he,hx,fun d hd=>?_⟩
   rw[List.getElem?_map,List.getElem?_eq_getElem (by omega)] at hd
   simp only[Option.map_some,Option.some.injEq] at hd
   rw[←hd]
   exact hnx
  obtain⟨cs0,h0,_⟩:=step 0 hp
  obtain⟨b,off,ha,_⟩:=cells_at h0 (by omega)
  have ha':a=⟨b,off,none⟩:=by simpa[Addr.add] using ha
  subst ha'
  obtain⟨f,hf⟩:=choose_fn (p:=fun i x=>(∃e,VAt W b (off+i*5) e∧RW W e x)∧∀d,(elems.map (·.1))[i]?=some d→(codeV x).size≤100*Rows.uptoBulk d) Val.zero len (fun i hi=>by
   obtain⟨cs',hcs',e,x,rfl,hx,hnx⟩:=step i hi
   rw[addr_add] at hcs'
   obtain⟨b',off',ha',hc⟩:=cells_at hcs' (by omega)
   injection ha' with e1 e2
   subst e1 e2
   exact⟨x,⟨e,⟨hc 0 (by omega),hc 1 (by omega),hc 2 (by omega),hc 3 (by omega),hc 4 (by omega)⟩,hx⟩,hnx⟩)
  refine⟨_,len,cap,(List.range len).map f,rfl,by simp,hlc,hsz,fun _=>⟨b,off,rfl,fun i y hi=>?_⟩,?_⟩
  rotate_left
  ·have h1:=codeL_bulk ((List.range len).map f) (elems.map (·.1)) (by simp[hel]) (fun i x d hi hd=>by
    have hlt:i<len:=by have:=(List.getElem?_eq_some_iff.1 hi).1;simpa using this
    rw[List.getElem?_map,List.getElem?_range hlt] at hi
    simp only[Option.map_some,Option.some.injEq] at hi
    subst hi
    exact(hf i hlt).2 d hd)
   simp only[Rows.uptoBulk]
   omega
  have hlt:i<len:=by have:=(List.getElem?_eq_some_iff.1 hi).1;simpa using this
  rw[List.getElem?_map,List.getElem?_range hlt] at hi
  simp only[Option.map_some,Option.some.injEq] at hi
  subst hi
  exact(hf i hlt).1
theorem bread_doc(n:Nat){v:Value}{y:DataW H×List MemPlace}(ih:∀n',n'<n→ReadsB H enc W base spare held n')(h:DataW.trod enc Tryz.prog W base spare held n 43 [v]=some y)(hw:Light 43 y.1):
 ∃(DA:Option Addr) (dn dc:Nat) (d:List Fld),v=.slice DA dn dc∧dn=d.length∧dn≤dc∧dn*96≤reach0∧(0<dn→∃b off,DA=some ⟨b,off,none⟩∧∀(i:Nat) (f:Fld),d[i]?=some f→W.cell? ⟨b,off+i*6,none⟩=some (.string f.s)∧f.s.size≤reach∧∃e,VAt W b (off+i*6+1) e∧RW W e f.v)∧(codeD d).size≤100*Rows.uptoBulk y.1:=by
 rcases DataW.trod_slice Tryz.underlying43 h with⟨hcs,_⟩|⟨a,len,cap,elems,rest,n',rfl,hcs,rfl,_,hlc,hcm,hel,hat,_,_⟩
 ·simp at hcs
  exact⟨none,0,0,[],hcs,rfl,qL,by decide,fun h=>absurd h (by omega),Nat.zero_le _⟩
 ·simp at hcs
  subst hcs
  simp only[Light,DataW.weights,Tryz.underlying43,List.mem_cons,List.mem_append,bytes_field] at hw
  have hsz:len*96≤reach0:=by
   have:=hw _ (.inl rfl)
   simp only[List.length_map,hel] at this
   have h2:len*96≤(len+rest.length)*96:=Nat.mul_le_mul_right _ (by omega)
   omega
  have wl:=light_all (l:=elems.map (·.1)) (fun z hz=>hw z (.inr (.inl hz)))
  rcases Nat.eq_zero_or_pos len with h0|hp
  ·exact⟨some a,len,cap,[],rfl,h0,hlc,hsz,fun h=>absurd h (by omega),Nat.zero_le _⟩
  have step:∀i,i<len→∃cs',W.cells? base (a.add (i*6)) 6=some cs'∧∃(s:ByteArray) (e:VC) (x:Val),cs'=.string s::VC.list e∧s.size≤reach∧RW W e x∧∀d,(elems.map (·.1))[i]?=some d→(codeF (.mk s x)).size≤100*Rows.uptoBulk d:=by
   intro i hi
   have h1:=hat i hi
   rw[cells_field,List.getElem?_eq_getElem (by omega)] at h1
   obtain⟨cs',hcs',ht'⟩:=Option.bind_eq_some_iff.1 h1
   have hwi:=wl _ (List.mem_map_of_mem (List.getElem_mem (l:=elems) (n:=i) (by omega)))
   have hei : (elems.map (·.1))[i]? = some (elems[i]'(by omega)).1 := by rw [List.getElem?_map, List.getElem?_eq_getElem (by omega)]; rfl
   generalize elems[i]=q at*
   obtain⟨ys,n'',rfl,rfl,hcl,hyl,hf⟩:=DataW.trod_struct Tryz.underlying75 ht'
   rw[cells_field] at hcl
   obtain⟨v0,v1,v2,v3,v4,v5,rfl⟩:=six hcl
   obtain⟨y0,y1,rfl⟩:=two hyl
   have f0:DataW.trod enc Tryz.prog W base spare held n'' 9 [v0]=some y0:=by simpa[cells_string] using hf 0 _ rfl
   have f1:DataW.trod enc Tryz.prog W base spare held n'' 45 [v1,v2,v3,v4,v5]=some y1:=by simpa[cells_value] using hf 1 _ rfl
   obtain⟨s,e0,rfl,_⟩:=DataW.trod_string Tryz.underlying9 f0
   simp only[List.cons.injEq,and_true] at e0
   subst e0
   simp only[Light,DataW.weights,Tryz.underlying75,List.map,DataW.weightsEach,List.mem_append] at hwi
   obtain⟨e,x,he,hx,hnx⟩:=ih n'' (by omega) _ _ f1 (fun z hz=>hwi z (.inr (.inl hz)))
   refine⟨_,hcs',s,e,x,by rw[he],Nat.le_trans (hwi s.size (.inl (by simp))) le_reach,hx,fun d hd=>?_⟩
   rw[hei] at hd
   injection hd with hd
   subst hd
   rw[codeF_eq]
   have:=strB_size s
   simp only[List.map,Rows.uptoBulk,Rows.uptoBulkAll,ByteArray.size_append,dsize,Fld.s,Fld.v]
   omega
  obtain⟨cs0,h0,_⟩:=step 0 hp
  obtain⟨b,off,ha,_⟩:=cells_at h0 (by omega)
  have ha':a=⟨b,off,none⟩:=by simpa[Addr.add] using ha
  subst ha'
  obtain⟨f,hf⟩:=choose_fn (p:=fun i (f:Fld)=>(W.cell? ⟨b,off+i*6,none⟩=some (.string f.s)∧f.s.size≤reach∧∃e,VAt W b (off+i*6+1) e∧RW W e f.v)∧∀d,(elems.map (·.1))[i]?=some d→(codeF f).size≤100*Rows.uptoBulk d) (.mk ByteArray.empty Val.zero) len (fun i hi=>by
   obtain⟨cs',hcs',s,e,x,rfl,hs,hx,hnx⟩:=step i hi
   rw[addr_add] at hcs'
   obtain⟨b',off',ha',hc⟩:=cells_at hcs' (by omega)
   injection ha' with e1 e2
   subst e1 e2
   exact⟨.mk s x,⟨hc 0 (by omega),hs,e,⟨hc 1 (by omega),hc 2 (by omega),hc 3 (by omega),hc 4 (by omega),hc 5 (by omega)⟩,hx⟩,hnx⟩)
  refine⟨_,len,cap,(List.range len).map f,rfl,by simp,hlc,hsz,fun _=>⟨b,off,rfl,fun i y hi=>?_⟩,?_⟩
  rotate_left
  ·have h1:=codeD_bulk ((List.range len).map f) (elems.map (·.1)) (by simp[hel]) (fun i x d hi hd=>by
    have hlt:i<len:=by have:=(List.getElem?_eq_some_iff.1 hi).1;simpa using this
    rw[List.getElem?_map,List.getElem?_range hlt] at hi
    simp only[Option.map_some,Option.some.injEq] at hi
    subst hi
    exact(hf i hlt).2 d hd)
   simp only[Rows.uptoBulk]
   omega
  have hlt:i<len:=by have:=(List.getElem?_eq_some_iff.1 hi).1;simpa using this
  rw[List.getElem?_map,List.getElem?_range hlt] at hi
  simp only[Option.map_some,Option.some.injEq] at hi
  subst hi
  exact(hf i hlt).1
theorem bread_value:∀(fuel:Nat) (cs:List Value) (y:DataW H×List MemPlace),DataW.trod enc Tryz.prog W base spare held fuel 45 cs=some y→Light 45 y.1→∃c x,cs=c.list∧RW W c x∧(codeV x).size≤100*Rows.uptoBulk y.1:=by
 intro fuel
 induction fuel using Nat.strongRecOn with
 | _ fuel ih=>
 intro cs y h hw
 obtain⟨ys,n,rfl,rfl,hcl,hyl,hf⟩:=DataW.trod_struct Tryz.underlying45 h
 rw[cells_value] at hcl
 obtain⟨v0,v1,v2,v3,v4,rfl⟩:=five hcl
 obtain⟨y0,y1,y2,y3,y4,rfl⟩:=five hyl
 have f0:DataW.trod enc Tryz.prog W base spare held n 3 [v0]=some y0:=by simpa[cells_int] using hf 0 _ rfl
 have f1:DataW.trod enc Tryz.prog W base spare held n 3 [v1]=some y1:=by simpa[cells_int] using hf 1 _ rfl
 have f2:DataW.trod enc Tryz.prog W base spare held n 9 [v2]=some y2:=by simpa[cells_string] using hf 2 _ rfl
 have f3:DataW.trod enc Tryz.prog W base spare held n 42 [v3]=some y3:=by simpa[cells_list] using hf 3 _ rfl
 have f4:DataW.trod enc Tryz.prog W base spare held n 43 [v4]=some y4:=by simpa[cells_doc] using hf 4 _ rfl
 obtain⟨k,e0,rfl,_⟩:=DataW.trod_int Tryz.underlying3 f0
 obtain⟨m,e1,rfl,hm⟩:=DataW.trod_int Tryz.underlying3 f1
 obtain⟨t,e2,rfl,_⟩:=DataW.trod_string Tryz.underlying9 f2
 simp only[List.cons.injEq,and_true] at e0 e1 e2
 subst e0 e1 e2
 have hw':Light 9 (DataW.lit (H:=H) (.string t.data.toList))∧Light 42 y3.1∧Light 43 y4.1:=by
  simp only[Light,DataW.weights,Tryz.underlying45,List.map,DataW.weightsEach,List.mem_append] at hw
  refine⟨fun z hz=>hw z ?_,fun z hz=>hw z ?_,fun z hz=>hw z ?_⟩
  ·simp only[DataW.weights] at hz
   exact .inr (.inr (.inl hz))
  ·exact .inr (.inr (.inr (.inl hz)))
  ·exact .inr (.inr (.inr (.inr (.inl hz))))
 obtain⟨w2,w3,w4⟩:=hw'
 have htz:t.size≤reach:=Nat.le_trans (w2 t.size (by simp[DataW.weights])) le_reach
 obtain⟨LA,ln,lc,l,rfl,hl1,hl2,hl3,hl4,hl5⟩:=bread_list n (fun n' hn=>ih n' (by omega)) f3 w3
 obtain⟨DA,dn,dc,d,rfl,hd1,hd2,hd3,hd4,hd5⟩:=bread_doc n (fun n' hn=>ih n' (by omega)) f4 w4
 refine⟨⟨k,m,t,LA,ln,lc,DA,dn,dc⟩,.mk k m t l d,rfl,RVs.shut ⟨rfl,rfl,rfl,htz,hl1,hl2,hl3,fun hp=>?_,hd1,hd2,Nat.le_trans hd3 le_reach,fun hp=>?_⟩,?_⟩
 ·obtain⟨b,off,e,h⟩:=hl4 hp
  exact⟨b,off,e,Ft.top,h⟩
 ·obtain⟨b,off,e,h⟩:=hd4 hp
  exact⟨b,off,e,Ft.top,h⟩
 ·rw[codeV_size]
  have g1:=numB_size k
  have g2:=numB_size m
  have g3:=strB_size t
  have g4:=numB_size (l.length:Int)
  have g5:=numB_size (d.length:Int)
  simp only[List.map,Rows.uptoBulk,Rows.uptoBulkAll,dsize,Val.k,Val.n,Val.t,Val.l,Val.d] at g1 g2 g3 g4 g5 hl5 hd5 ⊢
  omega
theorem bulk_memM{H:Type}{d:DataW H}{l:List (DataW H)}(h:d∈l):Rows.uptoBulk d≤Rows.uptoBulkAll l:=by
 induction l with
 | nil=>cases h
 | cons x r ih=>
  simp only[Rows.uptoBulkAll]
  rcases List.mem_cons.1 h with rfl|h
  ·omega
  ·have:=ih h;omega
theorem sm_of{x:Val}{n:Nat}(h:(codeV x).size≤100*n)(hn:n≤1048576):SmV x:=by unfold SmV;omega
theorem codeL_mem{l:List Val}{x:Val}(h:x∈l):(codeV x).size≤(codeL l).size:=by
 induction l with
 | nil=>cases h
 | cons y r ih=>
  rw[codeL,ByteArray.size_append]
  rcases List.mem_cons.1 h with rfl|h
  ·omega
  ·have:=ih h;omega
theorem bread_values(fuel:Nat){v:Value}{y:DataW H×List MemPlace}(hf:DataW.trod enc Tryz.prog W base spare held fuel 42 [v]=some y)(hw:Light 42 y.1)(hk:Rows.uptoBulk y.1≤1048576):
 ∃(A:Option Addr) (n c:Nat) (ps:List PV),v=.slice A n c∧SL (fun _=>True) W A n c ps∧∀p∈ps,SmV p.2:=by
 obtain⟨LA,ln,lc,l,e,hl1,hl2,hl3,hl4,hl5⟩:=bread_list fuel (fun n' _ cs y hy hl=>bread_value n' cs y hy hl) hf hw
 have hr:RW W ⟨0,0,ByteArray.empty,LA,ln,lc,none,0,0⟩ (.mk 0 0 ByteArray.empty l []):=by
  refine RVs.shut ⟨rfl,rfl,rfl,by show(0:Nat)≤reach;decide,hl1,hl2,hl3,fun hp=>?_,rfl,qL,by show 0*96≤reach;decide,fun h=>absurd h (by show ¬0<0;omega)⟩
  obtain⟨b,off,e,h⟩:=hl4 hp
  exact⟨b,off,e,Ft.top,h⟩
 obtain⟨ps,hps,hs⟩:=hr.sl
 refine⟨LA,ln,lc,ps,e,hs,fun p hp=>?_⟩
 have h1:p.2∈l:=by rw[show l=ps.map Prod.snd from hps.symm];exact List.mem_map_of_mem hp
 have h2:=codeL_mem h1
 exact sm_of (Nat.le_trans h2 hl5) hk
theorem bread_write(fuel:Nat)(cs:List Value)(y:DataW H×List MemPlace)(h:DataW.trod enc Tryz.prog W base spare held fuel 67 cs=some y)(hw:Light 67 y.1)(hk9:Rows.uptoBulk y.1≤1048576):∃x:Wx,IsW W cs x∧SmV x.key∧SmV x.doc:=by
 obtain⟨ys,n1,rfl,rfl,hcl,hyl,hf⟩:=DataW.trod_struct Tryz.underlying67 h
 rw[cells_write] at hcl
 obtain⟨y0,y1,y2,y3,y4,y5,y6,y7,y8,y9,y10,y11,rfl⟩:=twelve hyl
 have f0:DataW.trod enc Tryz.prog W base spare held n1 3 (cs.take 1)=some y0:=by simpa[cells_int] using hf 0 _ rfl
 have f1:DataW.trod enc Tryz.prog W base spare held n1 9 ((cs.drop 1).take 1)=some y1:=by simpa[cells_string] using hf 1 _ rfl
 have f2:DataW.trod enc Tryz.prog W base spare held n1 45 ((cs.drop 2).take 5)=some y2:=by simpa[cells_value] using hf 2 _ rfl
 have f3:DataW.trod enc Tryz.prog W base spare held n1 45 ((cs.drop 7).take 5)=some y3:=by simpa[cells_value] using hf 3 _ rfl
 have f9:DataW.trod enc Tryz.prog W base spare held n1 33 ((cs.drop 75).take 1)=some y9:=by simpa[cells_writes] using hf 9 _ rfl
 clear hf
 simp only[Light,DataW.weights,Tryz.underlying67,List.map,DataW.weightsEach,List.mem_append] at hw
 obtain⟨k0,e0,_⟩:=DataW.trod_int Tryz.underlying3 f0
 obtain⟨sp,e1,rfl,_⟩:=DataW.trod_string Tryz.underlying9 f1
 obtain⟨kc,key,e2,r2,b2⟩:=bread_value n1 _ _ f2 (fun z hz=>hw z (.inr (.inr (.inl hz))))
 obtain⟨dc,doc,e3,r3,b3⟩:=bread_value n1 _ _ f3 (fun z hz=>hw z (.inr (.inr (.inr (.inl hz)))))
 obtain⟨A9,m9,c9,e9⟩:∃A m c,(cs.drop 75).take 1=[.slice A m c]:=by
  rcases DataW.trod_slice Tryz.underlying33 f9 with⟨hcs,_⟩|⟨a,len,cap,elems,rest,n',_,hcs,_⟩
  ·exact⟨_,_,_,hcs⟩
  ·exact⟨_,_,_,hcs⟩
 simp only[Rows.uptoBulk,List.map,Rows.uptoBulkAll] at hk9
 exact⟨⟨k0,sp,kc,key,dc,doc,A9,m9,c9⟩,⟨hcl,take_drop_at (o:=0) (by simpa using e0) 0 _ rfl,take_drop_at e1 0 _ rfl,take_drop_at e2,take_drop_at e3,take_drop_at e9 0 _ rfl,Nat.le_trans (hw sp.size (.inr (.inl (by simp[DataW.weights])))) le_reach,r2,r3⟩,sm_of b2 (by omega),sm_of b3 (by omega)⟩
structure OpX where
 k:Int
 DA:Option Addr
 dn:Nat
 dc:Nat
 ps:List PV
 cs:List Value
 x:Wx
def recOp(o:OpX):List Value:=.int .i64 o.k::.slice o.DA o.dn o.dc::o.cs
structure IsOp(w:World)(o:OpX):Prop where
 sl:SL (fun _=>True) w o.DA o.dn o.dc o.ps
 sm:∀p∈o.ps,SmV p.2
 is:IsW w o.cs o.x
 sk:SmV o.x.key
 sd:SmV o.x.doc
 one:∀u∈recOp o,u.oneCell'=true
theorem IsOp.step{w w':World}{o:OpX}(h:IsOp w o)(hb:Below w.heap.size w w'):IsOp w' o:=⟨h.sl.step hb,h.sm,h.is.step hb,h.sk,h.sd,h.one⟩
structure OS(w:World)(A:Option Addr)(n c:Nat)(os:List OpX):Prop where
 sr:SR 80 recOp w A n c os
 is:∀o∈os,IsOp w o
theorem OS.step{w w':World}{A:Option Addr}{n c:Nat}{os:List OpX}(h:OS w A n c os)(hb:Below w.heap.size w w'):OS w' A n c os:=⟨h.sr.step hb,fun o ho=>(h.is o ho).step hb⟩
theorem cells_op:Tryz.prog.cellsOf 69=80:=by kernel_rfl
theorem bytes_op:Tryz.prog.bytesOf 69=1200:=by kernel_rfl
theorem cells_ops:Tryz.prog.cellsOf 28=1:=by kernel_rfl
theorem cells_run:Tryz.prog.cellsOf 30=9:=by kernel_rfl
theorem threeM{α:Type}{l:List α}(h:l.length=3):∃a0 a1 a2,l=[a0,a1,a2]:=by
 match l,h with
 | [a0,a1,a2],_=>exact⟨_,_,_,rfl⟩
theorem fourM{α:Type}{l:List α}(h:l.length=4):∃a0 a1 a2 a3,l=[a0,a1,a2,a3]:=by
 match l,h with
 | [a0,a1,a2,a3],_=>exact⟨_,_,_,_,rfl⟩
theorem nine{α:Type}{l:List α}(h:l.length=9):∃a0 a1 a2 a3 a4 a5 a6 a7 a8,l=[a0,a1,a2,a3,a4,a5,a6,a7,a8]:=by
 match l,h with
 | [a0,a1,a2,a3,a4,a5,a6,a7,a8],_=>exact⟨_,_,_,_,_,_,_,_,_,rfl⟩
theorem read_op(fuel:Nat)(cs:List Value)(y:DataW H×List MemPlace)(h:DataW.trod enc Tryz.prog W base spare held fuel 69 cs=some y)(hw:Light 69 y.1)(hk9:Rows.uptoBulk y.1≤1048576):∃o:OpX,cs=recOp o∧IsOp W o:=by
 have hone:=one_op _ _ _ h
 obtain⟨ys,n1,rfl,rfl,hcl,hyl,hf⟩:=DataW.trod_struct Tryz.underlying69 h
 rw[cells_op] at hcl
 obtain⟨y0,y1,y2,rfl⟩:=threeM hyl
 have f0:DataW.trod enc Tryz.prog W base spare held n1 3 (cs.take 1)=some y0:=by simpa[cells_int] using hf 0 _ rfl
 have f1:DataW.trod enc Tryz.prog W base spare held n1 42 ((cs.drop 1).take 1)=some y1:=by simpa[cells_values1] using hf 1 _ rfl
 have f2:DataW.trod enc Tryz.prog W base spare held n1 67 ((cs.drop 2).take 78)=some y2:=by simpa[cells_write] using hf 2 _ rfl
 clear hf
 simp only[Light,DataW.weights,Tryz.underlying69,List.map,DataW.weightsEach,List.mem_append] at hw
 simp only[Rows.uptoBulk,List.map,Rows.uptoBulkAll] at hk9
 obtain⟨k0,e0,_⟩:=DataW.trod_int Tryz.underlying3 f0
 obtain⟨v1,e1⟩:∃v1,(cs.drop 1).take 1=[v1]:=by
  match cs,hcl with
  | a::b::r,_=>exact⟨b,rfl⟩
 rw[e1] at f1
 obtain⟨DA,dn,dc,ps,rfl,hD,hSm⟩:=bread_values n1 f1 (fun z hz=>hw z (.inr (.inl hz))) (by omega)
 obtain⟨x,hx,s1,s2⟩:=bread_write n1 _ _ f2 (fun z hz=>hw z (.inr (.inr (.inl hz)))) (by omega)
 have hcs:cs=recOp ⟨k0,DA,dn,dc,ps,(cs.drop 2).take 78,x⟩:=?_
 ·exact⟨_,hcs,hD,hSm,hx,s1,s2,by rw[←hcs];exact hone⟩
 have h2:(cs.drop 2).take 78=cs.drop 2:=List.take_of_length_le (by rw[List.length_drop,hcl];exact qL)
 match cs,hcl with
 | a::b::r,_=>
  simp only[List.take_succ_cons,List.take_zero,List.drop_succ_cons,List.drop_zero,List.cons.injEq,and_true] at e0 e1 h2
  subst e0 e1
  show _=_::_::_
  rw[show(List.drop 2 (Value.int .i64 k0::Value.slice DA dn dc::r)).take 78=r from by simpa using h2]
def OpX.zero:OpX:=⟨0,none,0,0,[],(List.replicate 78 (Value.int .i64 0)),⟨0,ByteArray.empty,VC.zero,Val.zero,VC.zero,Val.zero,none,0,0⟩⟩
theorem read_ops(n:Nat){v:Value}{y:DataW H×List MemPlace}(h:DataW.trod enc Tryz.prog W base spare held n 28 [v]=some y)(hw:Light 28 y.1)(hk9:Rows.uptoBulk y.1≤1048576):
 ∃(A:Option Addr) (n c:Nat) (os:List OpX),v=.slice A n c∧OS W A n c os:=by
 rcases DataW.trod_slice Tryz.underlying28 h with⟨hcs,_⟩|⟨a,len,cap,elems,rest,n',rfl,hcs,rfl,_,hlc,hcm,hel,hat,_,_⟩
 ·simp at hcs
  exact⟨none,0,0,[],hcs,⟨SR.nil,fun p hp=>by simp at hp⟩⟩
 ·simp at hcs
  subst hcs
  simp only[Light,DataW.weights,Tryz.underlying28,List.mem_cons,List.mem_append,bytes_op] at hw
  simp only[Rows.uptoBulk] at hk9
  have wl:=light_all (l:=elems.map (·.1)) (fun z hz=>hw z (.inr (.inl hz)))
  rcases Nat.eq_zero_or_pos len with h0|hp
  ·subst h0
   exact⟨some a,0,cap,[],rfl,⟨SR.nil,fun p hp=>by simp at hp⟩⟩
  have step:∀i,i<len→∃o:OpX,W.cells? base (a.add (i*80)) 80=some (recOp o)∧IsOp W o:=by
   intro i hi
   have h1:=hat i hi
   rw[cells_op,List.getElem?_eq_getElem (by omega)] at h1
   obtain⟨cs',hcs',ht'⟩:=Option.bind_eq_some_iff.1 h1
   have hm : (elems[i]'(by omega)).1 ∈ elems.map (·.1) := List.mem_map_of_mem (List.getElem_mem _)
   have hb:=bulk_memM hm
   obtain⟨o,rfl,ho⟩:=read_op n' cs' _ ht' (wl _ hm) (by omega)
   exact⟨o,hcs',ho⟩
  obtain⟨o0,h0,ho0⟩:=step 0 hp
  obtain⟨b,off,ha,hc0⟩:=cells_at h0 (by omega)
  have ha':a=⟨b,off,none⟩:=by simpa[Addr.add] using ha
  subst ha'
  obtain⟨f,hf⟩:=choose_fn (p:=fun i (o:OpX)=>(∀j,j<80→W.cell? ⟨b,off+i*80+j,none⟩=(recOp o)[j]?)∧IsOp W o) OpX.zero len (fun i hi=>by
   obtain⟨o,hcs',ho⟩:=step i hi
   rw[addr_add] at hcs'
   obtain⟨b',off',ha',hc⟩:=cells_at hcs' (by omega)
   injection ha' with e1 e2
   subst e1 e2
   exact⟨o,hc,ho⟩)
  have hbl:b<W.heap.size:=by
   have h1:=(hf 0 hp).1 0 (by omega)
   exact World.block_lt_of_cell? W _ h1
  refine⟨_,len,cap,(List.range len).map f,rfl,⟨⟨by simp,hlc,fun _=>⟨b,off,rfl,hbl,fun i x hi j u hj=>?_⟩⟩,fun p hp'=>?_⟩⟩
  ·have hlt:i<len:=by have:=(List.getElem?_eq_some_iff.1 hi).1;simpa using this
   rw[List.getElem?_map,List.getElem?_range hlt] at hi
   simp only[Option.map_some,Option.some.injEq] at hi
   subst hi
   have hj5:j<80:=by
    have:=(List.getElem?_eq_some_iff.1 hj).1
    have h2:=(hf i hlt).2.is.len
    simp only[recOp,List.length_cons] at this
    omega
   rw[(hf i hlt).1 j hj5]
   exact hj
  ·obtain⟨i,hi,rfl⟩:=List.mem_map.1 hp'
   exact(hf i (List.mem_range.1 hi)).2
theorem read_run(n0:Nat)(cs:List Value)(y:DataW H×List MemPlace)(hf0:DataW.trod enc Tryz.prog W base spare held n0 30 cs=some y)(hw:Light 30 y.1)(hk9:Rows.uptoBulk y.1≤1048576):
 ∃(a:RA) (R:Ro) (lo:ByteArray) (tt:Int) (OA:Option Addr) (on oc:Nat) (os:List OpX),
  cs=[.string R.sp,.slice a.KA a.kn a.kc,.bool R.ha,.int .i64 R.ep,.int .i64 R.ver,.slice a.CA a.cn a.cc,.string lo,.int .i64 tt,.slice OA on oc]∧RR W a R∧lo.size≤reach∧OS W OA on oc os:=by
 obtain⟨ys,n1,rfl,rfl,hcl,hyl,hf⟩:=DataW.trod_struct Tryz.underlying30 hf0
 rw[cells_run] at hcl
 obtain⟨v0,v1,v2,v3,v4,v5,v6,v7,v8,rfl⟩:=nine hcl
 obtain⟨y0,y1,y2,y3,rfl⟩:=fourM hyl
 have f0:DataW.trod enc Tryz.prog W base spare held n1 27 [v0,v1,v2,v3,v4,v5]=some y0:=by simpa[cells_routes] using hf 0 _ rfl
 have f1:DataW.trod enc Tryz.prog W base spare held n1 9 [v6]=some y1:=by simpa[cells_string] using hf 1 _ rfl
 have f2:DataW.trod enc Tryz.prog W base spare held n1 3 [v7]=some y2:=by simpa[cells_int] using hf 2 _ rfl
 have f3:DataW.trod enc Tryz.prog W base spare held n1 28 [v8]=some y3:=by simpa[cells_ops] using hf 3 _ rfl
 clear hf
 simp only[Light,DataW.weights,Tryz.underlying30,List.map,DataW.weightsEach,List.mem_append] at hw
 simp only[Rows.uptoBulk,List.map,Rows.uptoBulkAll] at hk9
 obtain⟨a,R,ec,hR⟩:=read_routes n1 _ _ f0 (fun z hz=>hw z (.inl hz))
 obtain⟨lo,e1,rfl,_⟩:=DataW.trod_string Tryz.underlying9 f1
 obtain⟨tt,e2,_⟩:=DataW.trod_int Tryz.underlying3 f2
 obtain⟨OA,on,oc,os,rfl,hO⟩:=read_ops n1 f3 (fun z hz=>hw z (.inr (.inr (.inr (.inl hz))))) (by omega)
 simp only[List.cons.injEq,and_true] at e1 e2 ec
 obtain⟨rfl,rfl,rfl,rfl,rfl,rfl⟩:=ec
 subst e1 e2
 exact⟨a,R,lo,tt,OA,on,oc,os,rfl,hR,Nat.le_trans (hw lo.size (.inr (.inl (by simp[DataW.weights])))) le_reach,hO⟩
theorem open_run{r:Reach}{b0:Nat}{v:Value}{d:DataW H}{p:List MemPlace}(hv:Value.okWide Tryz.prog W r b0 30 v)(h:DataW.Trod enc Tryz.prog W base spare held 30 v d p)(hw:Light 30 d)(hk9:Rows.uptoBulk d≤1048576):
 ∃(a:RA) (R:Ro) (lo:ByteArray) (tt:Int) (OA:Option Addr) (on oc:Nat) (os:List OpX),
  v=.agg #[.string R.sp,.slice a.KA a.kn a.kc,.bool R.ha,.int .i64 R.ep,.int .i64 R.ver,.slice a.CA a.cn a.cc,.string lo,.int .i64 tt,.slice OA on oc]∧RR W a R∧lo.size≤reach∧OS W OA on oc os:=by
 obtain⟨cs,rfl,hsz⟩:=okWide_struct Tryz.underlying30 hv
 obtain⟨fuel,hf⟩:=h
 obtain⟨a,R,lo,tt,OA,on,oc,os,hc,h1⟩:=read_run fuel _ _ hf hw hk9
 refine⟨a,R,lo,tt,OA,on,oc,os,?_,h1⟩
 obtain⟨l⟩:=cs
 simp only[Value.cells] at hc
 rw[show l=_ from hc]
end
theorem linkB_at{l:List Ch}{j:Nat}{x y:Ch}(hx:l[j]?=some x)(hy:l[j+1]?=some y):linkB (l.drop j)=((y.lo.toList==x.hi.toList)&&!(Op.bytesLess y.lo.toList x.lo.toList||y.lo.toList==x.lo.toList)&&linkB (l.drop (j+1))):=by
 rw[drop_of hx,drop_of hy,linkB]
theorem rvalid49_any(R:Ro)(a:RA)(w:World)(h:RR w a R):Calls Tryz.prog 10 #[rval a R] w fun e w'=>e=.returned (.int .i64 (routE R))∧Below w.heap.size w w':=by
 obtain⟨KA,kn,kc,CA,cn,cc⟩:=a
 have H:=qD h
 have hn:Hid (cn=R.cs.length):=h.cs.ln
 have hcz:cn*56≤reach:=h.cs.sz
 have hlc:cn≤cc:=h.cs.sr.lc
 have hkn:cn≤140737488355328:=by unfold reach at hcz;omega
 have HLC:=qD hlc
 clear h hcz hlc
 have B0:Hid (Blk (w.alloc (.cells (rarr ⟨KA,kn,kc,CA,cn,cc⟩ R) 27)) w.heap.size 27 (rarr ⟨KA,kn,kc,CA,cn,cc⟩ R)):=Blk.new_at rfl
 have BE:Hid (Below w.heap.size w (w.alloc (.cells (rarr ⟨KA,kn,kc,CA,cn,cc⟩ R) 27))):=(Below.refl _ _).alloc (qL) _
 go_enter Tryz.func10,Tryz.ntmps10
 go_upto_region 1 with fail
 change (Code.region 1 _ _).wp _ _ _ (w.alloc (.cells (rarr ⟨KA,kn,kc,CA,cn,cc⟩ R) 27))
 generalize w.alloc (.cells (rarr ⟨KA,kn,kc,CA,cn,cc⟩ R) 27)=wa at*
 obtain⟨q0,q1,q2,q3,q4,q5,qz⟩:=blk_ro B0.out
 simp only at q1 q5
 go_wp2_with fail
 clear q0 q1 q2 q3 q4 q5 qz
 refine(rname_any R.sp wa).mono ?_
 rintro e w1 ⟨rfl,rfl⟩
 have D0:=B0
 have DE:=BE
 clear B0 BE
 cases hnm:nameB R.sp
 ·have HF:Hid (routE R=9):=by unfold Hid routE;rw[if_pos hnm]
  go_wp2_with fail
  go_ret
  exact⟨by rw[HF.out];rfl,DE.out⟩
 obtain⟨q0,q1,q2,q3,q4,q5,qz⟩:=blk_ro D0.out
 simp only at q1 q5
 go_wp2_with fail
 clear q0 q1 q2 q3 q4 q5 qz
 refine(rshardkey_any R.ks R.ha KA kn kc w1 (H.out.ks.step DE.out)).mono ?_
 rintro e w2 ⟨rfl,hb2⟩
 have F0:=qD (D0.out.step hb2)
 have FE:=qD (DE.out.step' hb2)
 clear hb2 D0 DE
 by_cases hke:keyE R.ks R.ha=0
 rotate_left
 ·have HF:Hid (routE R=keyE R.ks R.ha):=by unfold Hid routE;rw[if_neg (by simp[hnm]),if_pos hke]
  have hke':(keyE R.ks R.ha != 0)=true:=by simpa using hke
  go_wp2_with fail
  go_ret
  exact⟨by rw[HF.out];rfl,FE.out⟩
 have HV:Hid (routE R=if 64<R.cs.length then 2 else if R.ep<1∨R.ver<1 then 1 else if R.cs.any (badC R.ver) then 1 else if endsB R.cs=false then 4 else if linkB R.cs=false then 4 else 0):=by
  unfold Hid routE
  rw[if_neg (by simp[hnm]),if_neg (by simpa using hke)]
 rw[hke]
 clear hke hnm
 obtain⟨q0,q1,q2,q3,q4,q5,qz⟩:=blk_ro F0.out
 simp only at q1 q5
 by_cases h64:64<cn
 ·have HF:Hid (routE R=2):=by rw[Hid,HV.out,if_pos (by rw[←hn.out];exact h64)]
  go_wp2_with fail
  go_ret
  exact⟨by rw[HF.out];rfl,FE.out⟩
 have HV1:Hid (routE R=if R.ep<1∨R.ver<1 then 1 else if R.cs.any (badC R.ver) then 1 else if endsB R.cs=false then 4 else if linkB R.cs=false then 4 else 0):=by rw[Hid,HV.out,if_neg (by rw[←hn.out];exact h64)]
 clear HV
 by_cases hep:R.ep<1
 ·have HF:Hid (routE R=1):=by rw[Hid,HV1.out,if_pos (.inl hep)]
  go_wp2_with fail
  go_ret
  exact⟨by rw[HF.out];rfl,FE.out⟩
 by_cases hve:R.ver<1
 ·have HF:Hid (routE R=1):=by rw[Hid,HV1.out,if_pos (.inr hve)]
  go_wp2_with fail
  go_ret
  exact⟨by rw[HF.out];rfl,FE.out⟩
 have HV2:Hid (routE R=if R.cs.any (badC R.ver) then 1 else if endsB R.cs=false then 4 else if linkB R.cs=false then 4 else 0):=by rw[Hid,HV1.out,if_neg (by omega)]
 clear HV1
 have HEP:=qD hep
 have HVE:=qD hve
 go_wp2_with fail
 clear q0 q1 q2 q3 q4 q5 qz hep hve
 go_loopw [4] (fun v wr=>∃i:Nat,i≤cn∧v=.int .i64 i∧R.cs.any (badC R.ver)=(R.cs.drop i).any (badC R.ver)∧Blk wr w.heap.size 27 (rarr ⟨KA,kn,kc,CA,cn,cc⟩ R)∧Below w.heap.size w wr) (fun v _=>cn-(intOf v).toNat)
 case atStart=>exact⟨0,Nat.zero_le _,rfl,rfl,F0.out,FE.out⟩
 case round=>
  obtain⟨i,hi,rfl,hany,hblk,hbel⟩:=hrel
  have HA:=qD hany
  have HB:=qD hbel
  have HK:=qD hblk
  clear hany
  obtain⟨q0,q1,q2,q3,q4,q5,qz⟩:=blk_ro hblk
  simp only at q1 q5
  have hNl:=hblk.lt
  by_cases hlt:i<cn
  ·obtain⟨b,off,x,hA,hb,hx,e0,e1,e2,e3,e4⟩:=H.out.cs.sr.at5 hlt
   simp only at hA
   subst hA
   have HX:Hid ((R.cs.drop i).any (badC R.ver)=(badC R.ver x||(R.cs.drop (i+1)).any (badC R.ver))):=by rw[Hid,drop_of hx];rfl
   have g0:=(hbel.cell (p:=⟨b,off+i*5,none⟩) hb).trans e0
   have g1:=(hbel.cell (p:=⟨b,off+i*5+1,none⟩) hb).trans e1
   have g2:=(hbel.cell (p:=⟨b,off+i*5+2,none⟩) hb).trans e2
   have g3:=(hbel.cell (p:=⟨b,off+i*5+3,none⟩) hb).trans e3
   have g4:=(hbel.cell (p:=⟨b,off+i*5+4,none⟩) hb).trans e4
   have hbw:b<wr.heap.size:=by have:=hbel.size;omega
   obtain⟨xlo,xhi,xsh,xver,xju⟩:=x
   simp only at g0 g1 g2 g3 g4
   have HBA:=qD (HB.out.alloc HB.out.size (Obj.cells #[.string xlo,.string xhi,.int .i64 xsh,.int .i64 xver,.bool xju] 81))
   have HKA:=qD (HK.out.alloc (.cells #[.string xlo,.string xhi,.int .i64 xsh,.int .i64 xver,.bool xju] 81))
   clear hx e0 e1 e2 e3 e4 hbel hblk
   by_cases ha:xsh<0
   ·have HF:Hid (routE R=1):=by rw[Hid,HV2.out,if_pos (by rw[HA.out,HX.out];unfold badC;rw[decide_eq_true ha];simp)]
    go_wp2_with fail
    go_ret
    exact⟨by rw[HF.out];rfl,HBA.out⟩
   by_cases hb8:8≤xsh
   ·have HF:Hid (routE R=1):=by rw[Hid,HV2.out,if_pos (by rw[HA.out,HX.out];unfold badC;rw[decide_eq_true hb8,Bool.or_true];rfl)]
    go_wp2_with fail
    go_ret
    exact⟨by rw[HF.out];rfl,HBA.out⟩
   by_cases hc1:xver<1
   ·have HF:Hid (routE R=1):=by rw[Hid,HV2.out,if_pos (by rw[HA.out,HX.out];unfold badC;rw[decide_eq_true hc1,Bool.or_true];rfl)]
    go_wp2_with fail
    go_ret
    exact⟨by rw[HF.out];rfl,HBA.out⟩
   by_cases hd:R.ver<xver
   ·have HF:Hid (routE R=1):=by rw[Hid,HV2.out,if_pos (by rw[HA.out,HX.out];unfold badC;rw[decide_eq_true hd,Bool.or_true];rfl)]
    go_wp2_with fail
    go_ret
    exact⟨by rw[HF.out];rfl,HBA.out⟩
   have HN:Hid (R.cs.any (badC R.ver)=(R.cs.drop (i+1)).any (badC R.ver)):=by
    rw[Hid,HA.out,HX.out]
    unfold badC
    rw[decide_eq_false ha,decide_eq_false hb8,decide_eq_false hc1,decide_eq_false hd]
    rfl
   go_wp2_with fail
   go_roundw
   case rel=>exact⟨i+1,by omega,by go_num,HN.out,HKA.out,HBA.out⟩
   case measure=>simp[intOf];omega
  ·have HN:Hid (routE R=if endsB R.cs=false then 4 else if linkB R.cs=false then 4 else 0):=by
    rw[Hid,HV2.out,if_neg]
    rw[HA.out,List.drop_of_length_le (by rw[←hn.out];omega)]
    simp
   clear hbel hblk HV2 HA
   obtain rfl:i=cn:=by omega
   by_cases hz:i=0
   ·have HF:Hid (routE R=4):=by
     have:R.cs=[]:=List.eq_nil_of_length_eq_zero (by rw[←hn.out];exact hz)
     rw[Hid,HN.out,if_pos (by rw[this];rfl)]
    subst hz
    go_wp2_with fail
    go_ret
    exact⟨by rw[HF.out];rfl,HB.out⟩
   have hz0:((i:Int)==0)=false:=by simp;omega
   have hzi:(0:Int)<(i:Int):=by omega
   obtain⟨b,off,x,hA,hb,hx,e0,_,_,_,_⟩:=H.out.cs.sr.at5 (i:=0) (by show 0<i;omega)
   simp only at hA
   subst hA
   have HX0:=qD hx
   have g0:=(HB.out.cell (p:=⟨b,off+0*5,none⟩) hb).trans e0
   simp only[Nat.zero_mul,Nat.add_zero] at g0
   cases hlo:(x.lo.toList==[])
   ·have HF:Hid (routE R=4):=by
     rw[Hid,HN.out,if_pos]
     obtain⟨c,r,hcr⟩:∃c r,R.cs=c::r:=by
      cases hc:R.cs with
      | nil=>rw[hc] at hx;cases hx
      | cons c r=>exact⟨c,r,rfl⟩
     rw[hcr] at hx ⊢
     simp at hx
     subst hx
     rw[endsB,hlo]
     rfl
    clear hx e0
    go_wp2_with fail
    go_ret
    exact⟨by rw[HF.out];rfl,HB.out⟩
   obtain⟨b',off',y,hA,_,hy,_,e1,_,_,_⟩:=H.out.cs.sr.at5 (i:=i-1) (by show i-1<i;omega)
   simp only at hA
   injection hA with hA
   injection hA with hA1 hA2
   subst hA1 hA2
   have HY0:=qD hy
   have g1:=(HB.out.cell (p:=⟨b,off+(i-1)*5+1,none⟩) hb).trans e1
   have hw1:IntKind.i64.wrap ((i:Int)-1)=(i:Int)-1:=by rw[IntKind.wrap_i64];omega
   have hi1:(0:Int)≤(i:Int)-1:=by omega
   have hi2:(i:Int)-1<(i:Int):=by omega
   have hi3:((i:Int)-1).toNat=i-1:=by omega
   have HEN:Hid (endsB R.cs=(y.hi.toList==[])):=by
    obtain⟨c,r,hcr⟩:∃c r,R.cs=c::r:=by
     cases hc:R.cs with
     | nil=>rw[hc] at hx;cases hx
     | cons c r=>exact⟨c,r,rfl⟩
    have hl:=hn.out
    rw[hcr] at hx hy hl ⊢
    simp at hx
    subst hx
    have hyl:(c::r).getLast?=some y:=by rw[List.getLast?_eq_getElem?,←hy,hl]
    rw[Hid,endsB,hlo,hyl]
    simp
   clear hx hy e0 e1
   cases hhi:(y.hi.toList==[])
   ·have HF:Hid (routE R=4):=by rw[Hid,HN.out,if_pos (by rw[HEN.out,hhi])]
    go_wp2_with fail
    go_ret
    exact⟨by rw[HF.out];rfl,HB.out⟩
   have HL:Hid (routE R=if linkB R.cs=false then 4 else 0):=by rw[Hid,HN.out,if_neg (by rw[HEN.out,hhi];simp)]
   clear HN HEN
   have hl1:Hid (linkB R.cs=linkB (R.cs.drop 0)):=rfl
   by_cases hn1:i=1
   ·have HF:Hid (routE R=0):=by
     rw[Hid,HL.out,if_neg]
     obtain⟨c,hc⟩:∃c,R.cs=[c]:=by
      have:=hn.out
      rw[hn1] at this
      match hcs:R.cs,this with
      | [c],_=>exact⟨c,rfl⟩
     rw[hc]
     simp[linkB]
    subst hn1
    go_wp2_with fail
    all_goals
     go_loopw [6] (fun v wr=>v=.int .i64 1∧Blk wr w.heap.size 27 (rarr ⟨KA,kn,kc,some ⟨b,off,none⟩,1,cc⟩ R)∧Below w.heap.size w wr) (fun _ _=>0)
     case atStart=>exact⟨rfl,HK.out,HB.out⟩
     case round=>
      obtain⟨rfl,hblk,hbel⟩:=hrel
      obtain⟨q0,q1,q2,q3,q4,q5,qz⟩:=blk_ro hblk
      simp only at q1 q5
      go_wp2_with fail
      go_ret
      exact⟨by rw[HF.out];rfl,hbel⟩
   have hi22:2≤i:=by omega
   have hcc1:(cc=1)=False:=by simp;have:=HLC.out;omega
   have hcc2:(1:Int)≤(i:Int):=by omega
   go_wp2_with fail
   clear q0 q1 q2 q3 q4 q5 qz hlo hhi g0 g1 hw1 hi1 hi2 hi3
   obtain⟨wo,hwo⟩:∃wo:World,wo=wr:=⟨_,rfl⟩
   rw[←hwo] at HB HK ⊢
   clear hwo
   go_loopw [6] (fun v wr=>∃j:Nat,j+1≤i∧v=.int .i64 ((j:Int)+1)∧linkB R.cs=linkB (R.cs.drop j)∧Blk wr w.heap.size 27 (rarr ⟨KA,kn,kc,some ⟨b,off,none⟩,i,cc⟩ R)∧Below w.heap.size w wr) (fun v _=>i-(intOf v).toNat)
   case atStart=>exact⟨0,by omega,rfl,rfl,HK.out,HB.out⟩
   case round=>
    obtain⟨j,hj,rfl,hlk,hblk,hbel⟩:=hrel
    have HLK:=qD hlk
    have HB2:=qD hbel
    have HK2:=qD hblk
    clear hlk
    obtain⟨q0,q1,q2,q3,q4,q5,qz⟩:=blk_ro hblk
    simp only at q1 q5
    have hNl:=hblk.lt
    by_cases hjl:j+1<i
    ·obtain⟨b1,off1,x,hA,hbb,hx,e0,e1,_,_,_⟩:=H.out.cs.sr.at5 (i:=j) (by show j<i;omega)
     simp only at hA
     injection hA with hA
     injection hA with hA1 hA2
     subst hA1 hA2
     obtain⟨b1,off1,y,hA,_,hy,f0,f1,f2,f3,f4⟩:=H.out.cs.sr.at5 (i:=j+1) hjl
     simp only at hA
     injection hA with hA
     injection hA with hA1 hA2
     subst hA1 hA2
     have HX:=qD (linkB_at hx hy)
     replace e0:=(hbel.cell (p:=⟨b,off+j*5,none⟩) hbb).trans e0
     replace e1:=(hbel.cell (p:=⟨b,off+j*5+1,none⟩) hbb).trans e1
     replace f0:=(hbel.cell (p:=⟨b,off+(j+1)*5,none⟩) hbb).trans f0
     clear f1 f2 f3 f4
     have hbw:b<wr.heap.size:=by have:=hbel.size;omega
     obtain⟨xlo,xhi,xsh,xver,xju⟩:=x
     obtain⟨ylo,yhi,ysh,yver,yju⟩:=y
     simp only at e0 e1 f0
     simp only at HX
     have j0:(0:Int)≤(j:Int):=by omega
     have j1:(j:Int)<(i:Int):=by omega
     have j2:(j:Int)+1<(i:Int):=by omega
     have j3:((j:Int)+1).toNat=j+1:=by omega
     have j4:(0:Int)≤(j:Int)+1:=by omega
     have j5:IntKind.i64.wrap ((j:Int)+1-1)=(j:Int):=by rw[IntKind.wrap_i64];omega
     have j6:IntKind.i64.wrap (j:Int)=(j:Int):=by rw[IntKind.wrap_i64];omega
     have j7:(j:Int)<(i:Int)-1:=by omega
     clear hx hy hbel hblk
     go_upto_region 21 with fail
     have X0:∀kk:BW wr,kk.val.cell? ⟨w.heap.size,5,none⟩=some (.slice (some ⟨b,off,none⟩) i cc):=fun kk=>kk.cell (blk_ro HK2.out).2.2.2.2.2.1
     have X1:∀kk:BW wr,kk.val.cell? ⟨b,off+(j+1)*5,none⟩=some (.string ylo):=fun kk=>kk.cell f0
     have X2:∀kk:BW wr,kk.val.cell? ⟨b,off+j*5,none⟩=some (.string xlo):=fun kk=>kk.cell e0
     have X3:∀kk:BW wr,kk.val.cell? ⟨b,off+j*5+1,none⟩=some (.string xhi):=fun kk=>kk.cell e1
     clear q0 q1 q2 q3 q4 q5 qz e0 e1 f0
     cases hq:(ylo.toList==xhi.toList)
     rotate_left
     cases hr:Op.bytesLess ylo.toList xlo.toList
     cases hs:(ylo.toList==xlo.toList)
     all_goals
      refine wp_region_bw (by kernel_rfl) (by kernel_rfl) ?_
      repeat(go_big_quiet_step (fail))
      refine wpQuiet_nil ?_
      rintro _ ⟨kw,rfl⟩
      have HKW:=qD kw.below
      generalize kw.val=w5 at*
      clear X0 X1 X2 X3
     rotate_left
     case' false|true.true|true.false.true=>
      have HF:Hid (routE R=4):=by rw[Hid,HL.out,if_pos (by rw[HLK.out,HX.out];first|(rw[hq,hr,hs];rfl)|(rw[hq,hr];rfl)|(rw[hq];rfl))]
      go_wp2_with fail
      go_ret
      exact⟨by rw[HF.out];rfl,HB2.out.step' HKW.out⟩
     all_goals
      have HF:Hid (linkB R.cs=linkB (R.cs.drop (j+1))):=by rw[Hid,HLK.out,HX.out,hq,hr,hs];rfl
      go_wp2_with fail
      go_roundw
      case rel=>exact⟨j+1,by omega,by go_num,HF.out,HK2.out.step HKW.out,HB2.out.step' HKW.out⟩
      case measure=>simp[intOf];omega
    ·have HF:Hid (routE R=0):=by
      rw[Hid,HL.out,if_neg]
      rw[HLK.out]
      obtain⟨c,hc⟩:∃c,R.cs.drop j=[c]:=by
       have hl:=List.length_drop (l:=R.cs) (i:=j)
       rw[←hn.out] at hl
       match hcs:R.cs.drop j,(show(R.cs.drop j).length=1 by omega) with
       | [c],_=>exact⟨c,rfl⟩
      rw[hc]
      simp[linkB]
     clear hbel hblk
     have j8:¬(j:Int)<(i:Int)-1:=by omega
     have j9:¬(j:Int)+1<(i:Int):=by omega
     go_wp2_with fail
     go_ret
     exact⟨by rw[HF.out];rfl,HB2.out⟩
def BoolOk(P:Prop)(w:World)(e:Ending)(w':World):Prop:=∃b:Bool,e=.returned (.bool b)∧(b=true→P)∧Below w.heap.size w w'
theorem stored_any(x:Val)(c:VC)(w:World)(h:RW w c x):Calls Tryz.prog 11 #[c.val] w (BoolOk (StoD x) w):=by
 have ho:=h.open
 have HVA:=qD fun(w2:World) (hb:Below w.heap.size w w2)=>rvalid_any x c w2 (h.step hb)
 have HK:Hid (c.k=x.k):=ho.k
 have HDN:Hid (c.dn=x.d.length):=ho.dn
 have hdz:=ho.dsz
 unfold reach at hdz
 have HDA:=qD ho.da
 obtain⟨ck,cn,ct,cLA,cln,clc,cDA,cdn,cdc⟩:=c
 clear h ho
 simp only at hdz
 have B0:Hid (Blk (w.alloc (.cells #[.int .i64 ck,.int .i64 cn,.string ct,.slice cLA cln clc,.slice cDA cdn cdc] 45)) w.heap.size 45 #[.int .i64 ck,.int .i64 cn,.string ct,.slice cLA cln clc,.slice cDA cdn cdc]):=Blk.new_at rfl
 have BE:Hid (Below w.heap.size w (w.alloc (.cells #[.int .i64 ck,.int .i64 cn,.string ct,.slice cLA cln clc,.slice cDA cdn cdc] 45))):=(Below.refl _ _).alloc (qL) _
 go_enter Tryz.func11,Tryz.ntmps11
 go_upto_region 1 with fail
 change Code.wp _ _ _ _ (w.alloc (.cells #[.int .i64 ck,.int .i64 cn,.string ct,.slice cLA cln clc,.slice cDA cdn cdc] 45))
 generalize w.alloc (.cells #[.int .i64 ck,.int .i64 cn,.string ct,.slice cLA cln clc,.slice cDA cdn cdc] 45)=wa at*
 have a0:wa.cell? ⟨w.heap.size,0,none⟩=some (.int .i64 ck):=B0.out.cell 0
 have a1:wa.cell? ⟨w.heap.size,1,none⟩=some (.int .i64 cn):=B0.out.cell 1
 have a2:wa.cell? ⟨w.heap.size,2,none⟩=some (.string ct):=B0.out.cell 2
 have a3:wa.cell? ⟨w.heap.size,3,none⟩=some (.slice cLA cln clc):=B0.out.cell 3
 have a4:wa.cell? ⟨w.heap.size,4,none⟩=some (.slice cDA cdn cdc):=B0.out.cell 4
 cases hk:(ck==5)
 ·go_wp2_with fail
  go_ret
  exact⟨false,rfl,(fun h=>by cases h),BE.out⟩
 have HK5:Hid (x.k=5):=by rw[Hid,←HK.out];simpa using hk
 obtain⟨vb,hvb⟩:∃vb,validV x=vb:=⟨_,rfl⟩
 have HC:=HVA.out wa BE.out
 rw[hvb] at HC
 have HC2:=qD HC
 clear HC hvb HVA
 go_wp2_with fail
 refine HC2.out.mono ?_
 rintro e w1 ⟨rfl,hb⟩
 have B1:=qD (B0.out.step hb)
 have E1:=qD (BE.out.step' hb)
 clear hb a0 a1 a2 a3 a4 B0 BE HC2 hk
 have a4:w1.cell? ⟨w.heap.size,4,none⟩=some (.slice cDA cdn cdc):=B1.out.cell 4
 cases vb
 ·go_wp2_with fail
  go_ret
  exact⟨false,rfl,(fun h=>by cases h),E1.out⟩
 by_cases hd0:0<cdn
 rotate_left
 ·have hdi:¬(0:Int)<(cdn:Int):=by omega
  go_wp2_with fail
  go_ret
  exact⟨false,rfl,(fun h=>by cases h),E1.out⟩
 obtain⟨b,off,hA,_,hel⟩:=HDA.out hd0
 obtain⟨f,hf⟩:∃f,x.d[0]?=some f:=⟨_,List.getElem?_eq_getElem (by have:=HDN.out;omega)⟩
 obtain⟨hn,_,_,_,_⟩:=hel 0 f hf
 simp only[Nat.zero_mul,Nat.add_zero] at hn
 subst hA
 have n0:=(E1.out.cell (p:=⟨b,off,none⟩) (World.block_lt_of_cell? w _ hn)).trans hn
 have hdi:(0:Int)<(cdn:Int):=by omega
 have HF:=qD hf
 clear hel hn hf HDA
 cases he:(f.s.toList==[95,105,100])
 ·go_wp2_with fail
  go_ret
  exact⟨false,rfl,(fun h=>by cases h),E1.out⟩
 ·have HS:Hid (StoD x):=⟨HK5.out,f,HF.out,bytes_eq.1 (by rw[show idB.toList=[95,105,100] by kernel_rfl];simpa using he)⟩
  go_wp2_with fail
  go_ret
  exact⟨true,rfl,fun _=>HS.out,E1.out⟩
def OpOk(o:OpX):Prop:=o.dn≤20∧(o.x.kd=2→StoD o.x.doc)∧∀p∈o.ps,StoD p.2
def RunOk(R:Ro)(os:List OpX):Prop:=VR R∧os.length≤40∧∀o∈os,OpOk o
theorem sizeOp:(Tryz.prog.info? 69).map (·.size)=some 80:=by kernel_rfl
theorem recOp_len{w:World}{o:OpX}(h:IsOp w o):(recOp o).length=80:=by simp[recOp,h.is.len]
abbrev runA(KA:Option Addr)(kn kc:Nat)(CA:Option Addr)(cn cc:Nat)(R:Ro)(lo:ByteArray)(tt:Int)(OA:Option Addr)(on oc:Nat):Array Value:=#[.string R.sp,.slice KA kn kc,.bool R.ha,.int .i64 R.ep,.int .i64 R.ver,.slice CA cn cc,.string lo,.int .i64 tt,.slice OA on oc]
theorem good_any(R:Ro)(KA:Option Addr)(kn kc:Nat)(CA:Option Addr)(cn cc:Nat)(lo:ByteArray)(tt:Int)(OA:Option Addr)(on oc:Nat)(os:List OpX)(w:World)(h:RR w ⟨KA,kn,kc,CA,cn,cc⟩ R)(hO:OS w OA on oc os):
 Calls Tryz.prog 4 #[.agg (runA KA kn kc CA cn cc R lo tt OA on oc)] w (BoolOk (RunOk R os) w):=by
 have HR:=qD h
 have HO:=qD hO
 have HON:Hid (on=os.length):=hO.sr.ln
 have HCN:Hid (cn=R.cs.length):=h.cs.ln
 clear h hO
 have B0:Hid (Blk (w.alloc (.cells (runA KA kn kc CA cn cc R lo tt OA on oc) 30)) w.heap.size 30 (runA KA kn kc CA cn cc R lo tt OA on oc)):=Blk.new_at rfl
 have BE:Hid (Below w.heap.size w (w.alloc (.cells (runA KA kn kc CA cn cc R lo tt OA on oc) 30))):=(Below.refl _ _).alloc (qL) _
 go_enter Tryz.func4,Tryz.ntmps4
 go_upto_region 1 with fail
 change Code.wp _ _ _ _ (w.alloc (.cells (runA KA kn kc CA cn cc R lo tt OA on oc) 30))
 generalize w.alloc (.cells (runA KA kn kc CA cn cc R lo tt OA on oc) 30)=wa at*
 have x0:wa.cell? ⟨w.heap.size,0,none⟩=some (.string R.sp):=B0.out.cell 0
 have x1:wa.cell? ⟨w.heap.size,1,none⟩=some (.slice KA kn kc):=B0.out.cell 1
 have x2:wa.cell? ⟨w.heap.size,2,none⟩=some (.bool R.ha):=B0.out.cell 2
 have x3:wa.cell? ⟨w.heap.size,3,none⟩=some (.int .i64 R.ep):=B0.out.cell 3
 have x4:wa.cell? ⟨w.heap.size,4,none⟩=some (.int .i64 R.ver):=B0.out.cell 4
 have x5:wa.cell? ⟨w.heap.size,5,none⟩=some (.slice CA cn cc):=B0.out.cell 5
 by_cases hcn:cn≤64
 rotate_left
 ·have hc2:(64:Int)<(cn:Int):=by omega
  clear hcn
  go_wp2_with fail
  go_ret
  exact⟨false,rfl,(fun h=>by cases h),BE.out⟩
 have hc2:¬(64:Int)<(cn:Int):=by omega
 obtain⟨re,hre⟩:∃re,routE R=re:=⟨_,rfl⟩
 have HV:=rvalid49_any R (⟨KA,kn,kc,CA,cn,cc⟩:RA) wa (HR.out.step BE.out)
 rw[hre] at HV
 have HV2:=qD HV
 have HRE:=qD hre
 clear HV hre
 go_wp2_with fail
 refine HV2.out.mono ?_
 rintro e w1 ⟨rfl,hb⟩
 have B1:=qD (B0.out.step hb)
 have E1:=qD (BE.out.step' hb)
 clear hb x0 x1 x2 x3 x4 x5 B0 BE HV2 hc2
 have x8:w1.cell? ⟨w.heap.size,8,none⟩=some (.slice OA on oc):=B1.out.cell 8
 by_cases hr0:re=0
 rotate_left
 ·have hrb:(re != 0)=true:=by simpa using hr0
  clear hr0
  go_wp2_with fail
  go_ret
  exact⟨false,rfl,(fun h=>by cases h),E1.out⟩
 subst hr0
 have HVR:Hid (VR R):=(routE_iff R).1 HRE.out
 by_cases hon:on≤40
 rotate_left
 ·have hc2:(40:Int)<(on:Int):=by omega
  clear hon
  go_wp2_with fail
  go_ret
  exact⟨false,rfl,(fun h=>by cases h),E1.out⟩
 have hc2:¬(40:Int)<(on:Int):=by omega
 go_upto_region 4 with fail
 clear x8 hc2
 go_loopw [3,4,5] (fun v3 _ _ wr=>∃i:Nat,i≤on∧v3=.int .i64 i∧(∀(j:Nat) (o:OpX),j<i→os[j]?=some o→OpOk o)∧Below w1.heap.size w1 wr) (fun v3 _ _ _=>on-(intOf v3).toNat)
 case atStart=>exact⟨0,Nat.zero_le _,rfl,fun j o hj=>absurd hj (by omega),Below.refl _ _⟩
 case round=>
  obtain⟨i,hi,rfl,hok,hbel⟩:=hrel
  have HOK:=qD hok
  have HBL:=qD hbel
  have EB:=qD (E1.out.step' hbel)
  have x8:wr.cell? ⟨w.heap.size,8,none⟩=some (.slice OA on oc):=(B1.out.step hbel).cell 8
  clear hok hbel
  by_cases hlt:i<on
  rotate_left
  ·have hin:i=on:=by omega
   subst hin
   have HFIN:Hid (RunOk R os):=⟨HVR.out,by have:=HON.out;omega,fun o ho=>by
    obtain⟨j,hj⟩:=List.mem_iff_getElem?.1 ho
    exact HOK.out j o (by rw[HON.out];exact(List.getElem?_eq_some_iff.1 hj).1) hj⟩
   go_wp2_with fail
   go_ret
   exact⟨true,rfl,fun _=>HFIN.out,EB.out⟩
  obtain⟨o,ho⟩:∃o,os[i]?=some o:=⟨_,List.getElem?_eq_getElem (by have:=HON.out;omega)⟩
  obtain⟨b,off,hA,hbl,hc⟩:=HO.out.sr.el (by omega)
  subst hA
  have RG0:w.rangeAt b (off+i*80) (recOp o):=fun j v hj=>hc i o ho j v hj
  have RG:=qD (rangeAt_step RG0 EB.out)
  have HOP:=qD (HO.out.is o (List.mem_of_getElem? ho))
  have HOI:=qD ho
  have HLN:Hid ((recOp o).length=80):=recOp_len HOP.out
  have i0:(0:Int)≤(i:Int):=by omega
  have i1:(i:Int)<(on:Int):=by omega
  clear ho hc RG0 hbl
  have HON2:=qD (all_oneCell_toArray HOP.out.one)
  have HZS:Hid ((Tryz.zeroCells69).size=(recOp o).toArray.size):=by
   have h1:(Tryz.zeroCells69).size=80:=by kernel_rfl
   rw[Hid,h1,List.size_toArray,HLN.out]
  go_upto_region 7 with(first
   | (refine wpList_load_mid rfl 69 _ rfl b (off+i*80) rfl _ _ RG.out Tryz.underlying69 rfl (by rw[sizeOp,HLN.out]) ?_)
   | (refine wpList_store_row rfl 69 _ _ rfl wr.heap.size (recOp o).toArray rfl rfl 69 Tryz.zeroCells69 (Blk.new_at rfl) (by rw[sizeOp,List.size_toArray,HLN.out]) HZS.out HON2.out ?_))
  have G:Hid (Blk ((wr.alloc (.cells Tryz.zeroCells69 69)).setRow wr.heap.size (recOp o).toArray) wr.heap.size 69 (recOp o).toArray):=Blk.row (Blk.new_at rfl) _
  have GE:=qD (below_row (EB.out.alloc EB.out.size (Obj.cells Tryz.zeroCells69 69)) EB.out.size (recOp o).toArray)
  have GB:=qD (below_row (HBL.out.alloc HBL.out.size (Obj.cells Tryz.zeroCells69 69)) HBL.out.size (recOp o).toArray)
  clear x8 EB HBL RG HLN HON2 HZS
  generalize (wr.alloc (.cells Tryz.zeroCells69 69)).setRow wr.heap.size (recOp o).toArray=wg at*
  generalize wr.heap.size=gq at*
  have c1:wg.cell? ⟨gq,1,none⟩=some (.slice o.DA o.dn o.dc):=G.out.cellM rfl
  by_cases hdn:o.dn≤20
  rotate_left
  ·have hc2:(20:Int)<(o.dn:Int):=by omega
   clear hdn
   go_wp2_with fail
   go_ret
   exact⟨false,rfl,(fun h=>by cases h),GE.out⟩
  have hc2:¬(20:Int)<(o.dn:Int):=by omega
  have HDN:=qD hdn
  clear hdn
  have c77:wg.cell? ⟨gq,77,none⟩=some (.slice o.x.A o.x.m o.x.c):=G.out.cellM HOP.out.is.hw
  by_cases hm0:o.x.m=0
  rotate_left
  ·have hmi:(0:Int)<(o.x.m:Int):=by omega
   clear hm0
   go_wp2_with fail
   go_ret
   exact⟨false,rfl,(fun h=>by cases h),GE.out⟩
  rw[hm0] at c77
  clear hm0
  have c2:wg.cell? ⟨gq,2,none⟩=some (.int .i64 o.x.kd):=G.out.cellM HOP.out.is.h0
  by_cases hk2:o.x.kd=2
  ·rw[hk2] at c2
   have d0:wg.cell? ⟨gq,9,none⟩=some (.int .i64 o.x.dc.k):=G.out.cellM (HOP.out.is.hd 0 _ rfl)
   have d1:wg.cell? ⟨gq,10,none⟩=some (.int .i64 o.x.dc.n):=G.out.cellM (HOP.out.is.hd 1 _ rfl)
   have d2:wg.cell? ⟨gq,11,none⟩=some (.string o.x.dc.t):=G.out.cellM (HOP.out.is.hd 2 _ rfl)
   have d3:wg.cell? ⟨gq,12,none⟩=some (.slice o.x.dc.LA o.x.dc.ln o.x.dc.lc):=G.out.cellM (HOP.out.is.hd 3 _ rfl)
   have d4:wg.cell? ⟨gq,13,none⟩=some (.slice o.x.dc.DA o.x.dc.dn o.x.dc.dc):=G.out.cellM (HOP.out.is.hd 4 _ rfl)
   have HC:=qD (stored_any o.x.doc o.x.dc wg (HOP.out.is.doc.step GE.out))
   clear hk2
   go_wp2_with fail
   refine HC.out.mono ?_
   rintro e wh ⟨bb,rfl,hbb,hby⟩
   have G2:=qD (G.out.step hby)
   have GE2:=qD (GE.out.step' hby)
   have GB2:=qD (GB.out.step' hby)
   have HBB:=qD hbb
   clear hbb hby c1 c2 c77 d0 d1 d2 d3 d4 hc2 HC G GE GB
   generalize wh=wg at*
   have G:=G2
   have GE:=GE2
   have GB:=GB2
   clear G2 GE2 GB2
   cases bb
   ·go_wp2_with fail
    go_ret
    exact⟨false,rfl,(fun h=>by cases h),GE.out⟩
   have HKD:Hid (o.x.kd=2→StoD o.x.doc):=fun _=>HBB.out rfl
   go_upto_region 10 with fail
   have hdz:=Nat.le_trans HDN.out (by omega:20≤1000)
   go_loopw [5] (fun v5 wx=>∃k:Nat,k≤o.dn∧v5=.int .i64 k∧(∀(j:Nat) (p:PV),j<k→o.ps[j]?=some p→StoD p.2)∧Below wg.heap.size wg wx) (fun v5 _=>o.dn-(intOf v5).toNat)
   case atStart=>exact⟨0,Nat.zero_le _,rfl,fun j p hj=>absurd hj (by omega),Below.refl _ _⟩
   case round=>
    obtain⟨k,hk,rfl,hst,hbx⟩:=hrel
    have HST:=qD hst
    have HBX:=qD hbx
    have GX:=qD (G.out.step hbx)
    have EX:=qD (GE.out.step' hbx)
    have c1:wr.cell? ⟨gq,1,none⟩=some (.slice o.DA o.dn o.dc):=GX.out.cellM rfl
    clear hst hbx
    by_cases hkl:k<o.dn
    ·obtain⟨p,hp⟩:∃p,o.ps[k]?=some p:=⟨_,List.getElem?_eq_getElem (by have:=HOP.out.sl.sr.ln;omega)⟩
     obtain⟨b2,off2,hA2,_,hu,hr⟩:=(HOP.out.sl.step EX.out).vat hp
     rw[hA2] at c1
     obtain⟨a0,a1,a2,a3,a4⟩:=hu
     have HC:=qD (stored_any p.2 p.1 wr (hr.mono fun _ _=>trivial))
     have HPK:=qD hp
     have k0:(0:Int)≤(k:Int):=by omega
     have k1:(k:Int)<(o.dn:Int):=by omega
     clear hr hp hA2
     go_wp2_with fail
     refine HC.out.mono ?_
     rintro e wy ⟨bb,rfl,hbb,hby⟩
     have HBB:=qD hbb
     have EY:=qD (EX.out.step' hby)
     have EB:=qD (HBX.out.step' hby)
     clear hbb hby a0 a1 a2 a3 a4 c1 HC k0 k1
     cases bb
     ·go_wp2_with fail
      go_ret
      exact⟨false,rfl,(fun h=>by cases h),EY.out⟩
     ·have HS2:Hid (∀(j:Nat) (p:PV),j<k+1→o.ps[j]?=some p→StoD p.2):=qD fun j q hj hq=>by
       rcases Nat.lt_or_ge j k with h|h
       ·exact HST.out j q h hq
       ·have:j=k:=by omega
        subst this
        rw[HPK.out] at hq
        injection hq with hq
        subst hq
        exact HBB.out rfl
      go_wp2_with fail
      go_roundw
      case rel=>exact⟨k+1,by omega,by go_num,HS2.out,EB.out⟩
      case measure=>simp[intOf];omega
    ·have hkk:k=o.dn:=by omega
     have HALL:Hid (∀p∈o.ps,StoD p.2):=qD fun p hp=>by
      obtain⟨j,hj⟩:=List.mem_iff_getElem?.1 hp
      exact HST.out j p (by have h1:=(List.getElem?_eq_some_iff.1 hj).1;have:=HOP.out.sl.sr.ln;omega) hj
     have HNX:Hid (∀(j:Nat) (q:OpX),j<i+1→os[j]?=some q→OpOk q):=qD fun j q hj hq=>by
      rcases Nat.lt_or_ge j i with h|h
      ·exact HOK.out j q h hq
      ·have:j=i:=by omega
       subst this
       rw[HOI.out] at hq
       injection hq with hq
       subst hq
       exact⟨HDN.out,HKD.out,HALL.out⟩
     go_wp2_with fail
     go_roundw
     case rel=>exact⟨i+1,by omega,by go_num,HNX.out,GB.out.step' HBX.out⟩
     case measure=>simp[intOf];omega
  ·have hkb:(o.x.kd==2)=false:=by simpa using hk2
   have HKD:Hid (o.x.kd=2→StoD o.x.doc):=fun h=>absurd h hk2
   clear hk2
   go_upto_region 10 with fail
   clear hkb c1 c2 c77 hc2
   have hdz:=Nat.le_trans HDN.out (by omega:20≤1000)
   go_loopw [5] (fun v5 wx=>∃k:Nat,k≤o.dn∧v5=.int .i64 k∧(∀(j:Nat) (p:PV),j<k→o.ps[j]?=some p→StoD p.2)∧Below wg.heap.size wg wx) (fun v5 _=>o.dn-(intOf v5).toNat)
   case atStart=>exact⟨0,Nat.zero_le _,rfl,fun j p hj=>absurd hj (by omega),Below.refl _ _⟩
   case round=>
    obtain⟨k,hk,rfl,hst,hbx⟩:=hrel
    have HST:=qD hst
    have HBX:=qD hbx
    have GX:=qD (G.out.step hbx)
    have EX:=qD (GE.out.step' hbx)
    have c1:wr.cell? ⟨gq,1,none⟩=some (.slice o.DA o.dn o.dc):=GX.out.cellM rfl
    clear hst hbx
    by_cases hkl:k<o.dn
    ·obtain⟨p,hp⟩:∃p,o.ps[k]?=some p:=⟨_,List.getElem?_eq_getElem (by have:=HOP.out.sl.sr.ln;omega)⟩
     obtain⟨b2,off2,hA2,_,hu,hr⟩:=(HOP.out.sl.step EX.out).vat hp
     rw[hA2] at c1
     obtain⟨a0,a1,a2,a3,a4⟩:=hu
     have HC:=qD (stored_any p.2 p.1 wr (hr.mono fun _ _=>trivial))
     have HPK:=qD hp
     have k0:(0:Int)≤(k:Int):=by omega
     have k1:(k:Int)<(o.dn:Int):=by omega
     clear hr hp hA2
     go_wp2_with fail
     refine HC.out.mono ?_
     rintro e wy ⟨bb,rfl,hbb,hby⟩
     have HBB:=qD hbb
     have EY:=qD (EX.out.step' hby)
     have EB:=qD (HBX.out.step' hby)
     clear hbb hby a0 a1 a2 a3 a4 c1 HC k0 k1
     cases bb
     ·go_wp2_with fail
      go_ret
      exact⟨false,rfl,(fun h=>by cases h),EY.out⟩
     ·have HS2:Hid (∀(j:Nat) (p:PV),j<k+1→o.ps[j]?=some p→StoD p.2):=qD fun j q hj hq=>by
       rcases Nat.lt_or_ge j k with h|h
       ·exact HST.out j q h hq
       ·have:j=k:=by omega
        subst this
        rw[HPK.out] at hq
        injection hq with hq
        subst hq
        exact HBB.out rfl
      go_wp2_with fail
      go_roundw
      case rel=>exact⟨k+1,by omega,by go_num,HS2.out,EB.out⟩
      case measure=>simp[intOf];omega
    ·have hkk:k=o.dn:=by omega
     have HALL:Hid (∀p∈o.ps,StoD p.2):=qD fun p hp=>by
      obtain⟨j,hj⟩:=List.mem_iff_getElem?.1 hp
      exact HST.out j p (by have h1:=(List.getElem?_eq_some_iff.1 hj).1;have:=HOP.out.sl.sr.ln;omega) hj
     have HNX:Hid (∀(j:Nat) (q:OpX),j<i+1→os[j]?=some q→OpOk q):=qD fun j q hj hq=>by
      rcases Nat.lt_or_ge j i with h|h
      ·exact HOK.out j q h hq
      ·have:j=i:=by omega
       subst this
       rw[HOI.out] at hq
       injection hq with hq
       subst hq
       exact⟨HDN.out,HKD.out,HALL.out⟩
     go_wp2_with fail
     go_roundw
     case rel=>exact⟨i+1,by omega,by go_num,HNX.out,GB.out.step' HBX.out⟩
     case measure=>simp[intOf];omega
theorem ro_no{w:World}{g:Nat}{t:TypeId}{a:RA}{R:Ro}(h:Blk w g t (rarr a R))(off:Nat)(c:VC):¬VAt w g off c:=by
 rintro⟨h0,h1,h2,_,_⟩
 rw[h.cell] at h0 h1 h2
 match off with
 | 0=>simp[rarr] at h0
 | 1=>simp[rarr] at h0
 | 2=>simp[rarr] at h0
 | 3=>simp[rarr] at h2
 | 4=>simp[rarr] at h1
 | 5=>simp[rarr] at h0
 | k+6=>simp[rarr] at h0
theorem RV.row_ro{F:Nat→Prop}{w:World}{g:Nat}{t:TypeId}{a:RA}{R:Ro}{c:VC}{x:Val}(h:RV F w c x)(q:Blk w g t (rarr a R))(h0:0<g)(cs:Array Value):RV F (w.setRow g cs) c x:=
 (h.miss h0 (ro_no q)).keepG fun b hb _=>⟨hb.1,setRow_other w g b cs hb.2⟩
theorem WS.row_ro{w:World}{g:Nat}{t:TypeId}{a:RA}{R:Ro}{A:Option Addr}{n c:Nat}{ps:List PW}(h:WS (fun _=>True) w A n c ps)(q:Blk w g t (rarr a R))(h0:0<g)(cs:Array Value):WS (fun _=>True) (w.setRow g cs) A n c ps:=by
 refine⟨⟨h.sr.ln,h.sr.lc,fun hn=>?_⟩,h.sz,fun p hp=>?_⟩
 ·obtain⟨b,off,e,hl,hc⟩:=h.sr.el hn
  have hb:b≠g:=by
   rintro rfl
   obtain⟨p,hp⟩:∃p,ps[0]?=some p:=⟨_,List.getElem?_eq_getElem (by have:=h.sr.ln;omega)⟩
   have h77:=hc 0 p hp 77 (.bool p.1.si) rfl
   rw[q.cell] at h77
   simp[rarr] at h77
  refine⟨b,off,e,by simpa using hl,fun i p hi j v hj=>?_⟩
  rw[World.cell?_of_block (setRow_other w g b cs hb)]
  exact hc i p hi j v hj
 ·have:=h.el p hp
  exact⟨this.kd,this.sp,this.si,this.sz,this.key.row_ro q h0 cs,this.doc.row_ro q h0 cs⟩
theorem MR.row_ro{w:World}{g:Nat}{t:TypeId}{a:RA}{R:Ro}{b:MA}{N:Mv}(h:MR w b N)(q:Blk w g t (rarr a R))(h0:0<g)(cs:Array Value):MR (w.setRow g cs) b N:=by
 obtain⟨ps,e,hp⟩:=h.cp
 obtain⟨qs,e',hq⟩:=h.ch
 exact⟨h.sp,⟨ps,e,hp.row_ro q h0 cs⟩,⟨qs,e',hq.row_ro q h0 cs⟩⟩
theorem size_setRowM(w:World)(g:Nat)(cs:Array Value):w.heap.size≤(w.setRow g cs).heap.size:=by rw[size_setRow];exact qL
theorem RR.row_mv{w:World}{b:RA}{S:Ro}{g:Nat}{t:TypeId}{a c:MA}{M N:Mv}(h:RR w b S)(hp:∀q∈S.ks,pathB q.p=true)(B:Blk w g t (marr a M))(hs:SameM M N):RR (w.setRow g (marr c N)) b S:=
 h.keep_mv hp (size_setRowM _ _ _) (fun k hk=>setRow_other _ _ _ _ hk) B fun _=>.inr fun j hj=>by
  have B2:=Blk.row B (marr c N)
  rw[B.cell,B2.cell]
  obtain⟨h1,h2,h3⟩:=hs
  match j with
  | 0=>simp[marr,h1]
  | 1=>simp[marr,h2]
  | 2=>simp[marr,h3]
  | k+3=>omega
theorem RR.row_mv0{w:World}{b:RA}{S:Ro}{g:Nat}{t:TypeId}(h:RR w b S)(hp:∀q∈S.ks,pathB q.p=true)(B:Blk w g t (marr MA.zero Mv.zero))(cs:Array Value):RR (w.setRow g cs) b S:=
 h.keep_mv hp (size_setRowM _ _ _) (fun _ hk=>setRow_other _ _ _ _ hk) B fun _=>.inl ⟨rfl,rfl,rfl⟩
theorem RR.row_ro0{w:World}{b:RA}{S:Ro}{g:Nat}{t:TypeId}(h:RR w b S)(hp:∀q∈S.ks,pathB q.p=true)(B:Blk w g t (rarr RA.zero Ro.zero))(cs:Array Value):RR (w.setRow g cs) b S:=
 h.keep_ro hp (size_setRowM _ _ _) (fun _ hk=>setRow_other _ _ _ _ hk) B
structure KeyF(R:Ro):Prop where
 pos:0<R.ks.length
 le:R.ks.length≤8
 one:R.ha=true→R.ks.length=1
 pa:∀q∈R.ks,pathB q.p=true
def CallOk(n:Nat)(R0:Ro)(M:Mv)(w:World)(e:Ending)(w':World):Prop:=
 ∃(M':Mv) (mb:MA) (R':Ro) (b:RA),e=.returned (.tuple #[mval mb M',rval b R',.bool true])∧StR (n+1) R0 M' mb R'∧SameM M M'∧MR w' mb M'∧RR w' b R'∧Below w.heap.size w w'
theorem SameM.refl(M:Mv):SameM M M:=⟨rfl,rfl,rfl⟩
theorem call0_any(n:Nat)(R0:Ro)(M:Mv)(ma:MA)(R:Ro)(a:RA)(o:OpX)(w:World)(hT:Tabs w)(_:0<w.heap.size)(hs:StR n R0 M ma R)(hkf:KeyF R)(_:n≤40)(hM:MR w ma M)(hR:RR w a R)(hO:IsOp w o)(hok:OpOk o)(hk:o.k≠1∧o.k≠2∧o.k≠3∧o.k≠4∧o.k≠5):
 Calls Tryz.prog 9 #[mval ma M,rval a R,.agg (recOp o).toArray] w (CallOk n R0 M w):=by
 have HT:=qD hT
 have HS:=qD hs
 have HKF:=qD hkf
 have HM:=qD hM
 have HR:=qD hR
 have HOP:=qD hO
 have HOK:=qD hok
 have HLN:Hid ((recOp o).length=80):=recOp_len hO
 clear hT hs hkf hM hR hO hok
 obtain⟨wa,hwa⟩:∃wa,((((w.alloc (.cells (marr ma M) 35)).alloc (.cells (rarr a R) 27)).alloc (.cells (recOp o).toArray 69)).alloc (.cells (marr MA.zero Mv.zero) 35)).alloc (.cells (rarr RA.zero Ro.zero) 27)=wa:=⟨_,rfl⟩
 have B0:Hid (Blk wa w.heap.size 35 (marr ma M)):=by rw[←hwa];exact((((Blk.new_at rfl).alloc _).alloc _).alloc _).alloc _
 have B1:Hid (Blk wa (w.heap.size+1) 27 (rarr a R)):=by rw[←hwa];exact(((Blk.new_at (by simp)).alloc _).alloc _).alloc _
 have B2:Hid (Blk wa (w.heap.size+2) 69 (recOp o).toArray):=by rw[←hwa];exact((Blk.new_at (by simp)).alloc _).alloc _
 have B3:Hid (Blk wa (w.heap.size+3) 35 (marr MA.zero Mv.zero)):=by rw[←hwa];exact(Blk.new_at (by simp)).alloc _
 have B4:Hid (Blk wa (w.heap.size+4) 27 (rarr RA.zero Ro.zero)):=by rw[←hwa];exact Blk.new_at (by simp)
 have BE:Hid (Below w.heap.size w wa):=by rw[←hwa];exact(((((Below.refl _ _).alloc (qL) _).alloc (by simp) _).alloc (by simp;omega) _).alloc (by simp;omega) _).alloc (by simp;omega) _
 have HWS:Hid (wa.heap.size=w.heap.size+5):=by rw[←hwa];simp[Hid]
 have HWA:=qD hwa
 clear hwa
 go_enter Tryz.func9,Tryz.ntmps9
 go_upto_region 1 with fail
 change Code.wp _ _ _ _ (((((w.alloc (.cells (marr ma M) 35)).alloc (.cells (rarr a R) 27)).alloc (.cells (recOp o).toArray 69)).alloc (.cells (marr MA.zero Mv.zero) 35)).alloc (.cells (rarr RA.zero Ro.zero) 27))
 rw[HWA.out]
 clear HWA
 obtain⟨wz,hwz⟩:∃wz,((wa.alloc (.cells (marr MA.zero Mv.zero) 35)).alloc (.cells (marr MA.zero Mv.zero) 35))=wz:=⟨_,rfl⟩
 have hws:=HWS.out
 have C0:Hid (Blk wz w.heap.size 35 (marr ma M)):=by rw[←hwz];exact(B0.out.alloc _).alloc _
 have C1:Hid (Blk wz (w.heap.size+1) 27 (rarr a R)):=by rw[←hwz];exact(B1.out.alloc _).alloc _
 have C2:Hid (Blk wz (w.heap.size+2) 69 (recOp o).toArray):=by rw[←hwz];exact(B2.out.alloc _).alloc _
 have C3:Hid (Blk wz (w.heap.size+3) 35 (marr MA.zero Mv.zero)):=by rw[←hwz];exact(B3.out.alloc _).alloc _
 have C4:Hid (Blk wz (w.heap.size+4) 27 (rarr RA.zero Ro.zero)):=by rw[←hwz];exact(B4.out.alloc _).alloc _
 have C5:Hid (Blk wz (w.heap.size+5) 35 (marr MA.zero Mv.zero)):=by rw[←hwz,←hws];exact(Blk.new_at rfl).alloc _
 have C6:Hid (Blk wz (w.heap.size+6) 35 (marr MA.zero Mv.zero)):=by rw[←hwz,show w.heap.size+6=wa.heap.size+1 from by omega];exact Blk.new_at (by simp)
 have CE:Hid (Below w.heap.size w wz):=by rw[←hwz];exact(BE.out.alloc BE.out.size _).alloc (by rw[size_alloc];have:=BE.out.size;omega) _
 have HWZ:=qD hwz
 clear hwz B0 B1 B2 B3 B4 BE hws
 have E6:Hid (Blk (wz.setRow wa.heap.size (marr MA.zero Mv.zero)) (wa.heap.size+1) 35 (marr MA.zero Mv.zero)):=by rw[HWS.out];exact Blk.row_far C6.out (by omega) _
 have E5:Hid (Blk ((wa.alloc (.cells (marr MA.zero Mv.zero) 35)).alloc (.cells (marr MA.zero Mv.zero) 35)) wa.heap.size 35 (marr MA.zero Mv.zero)):=by rw[HWZ.out,HWS.out];exact C5.out
 rw[←HWZ.out] at E6
 go_upto_region 2 with(first|(refine wpList_store_row rfl 35 _ _ rfl wa.heap.size (marr MA.zero Mv.zero) rfl rfl 35 _ E5.out (by rw[sizeM];rfl) rfl (marr_all _ _) ?_)|(refine wpList_store_row rfl 35 _ _ rfl (wa.heap.size+1) (marr MA.zero Mv.zero) rfl rfl 35 _ E6.out (by rw[sizeM];rfl) rfl (marr_all _ _) ?_))
 change Code.wp _ _ _ _ ((((wa.alloc (.cells (marr MA.zero Mv.zero) 35)).alloc (.cells (marr MA.zero Mv.zero) 35)).setRow wa.heap.size (marr MA.zero Mv.zero)).setRow (wa.heap.size+1) (marr MA.zero Mv.zero))
 rw[HWZ.out,HWS.out]
 have D0:=qD (Blk.row_far (Blk.row_far C0.out (by omega:w.heap.size≠w.heap.size+5) (marr MA.zero Mv.zero)) (by omega:w.heap.size≠w.heap.size+5+1) (marr MA.zero Mv.zero))
 have D1:=qD (Blk.row_far (Blk.row_far C1.out (by omega:w.heap.size+1≠w.heap.size+5) (marr MA.zero Mv.zero)) (by omega:w.heap.size+1≠w.heap.size+5+1) (marr MA.zero Mv.zero))
 have D2:=qD (Blk.row_far (Blk.row_far C2.out (by omega:w.heap.size+2≠w.heap.size+5) (marr MA.zero Mv.zero)) (by omega:w.heap.size+2≠w.heap.size+5+1) (marr MA.zero Mv.zero))
 have D3:=qD (Blk.row_far (Blk.row_far C3.out (by omega:w.heap.size+3≠w.heap.size+5) (marr MA.zero Mv.zero)) (by omega:w.heap.size+3≠w.heap.size+5+1) (marr MA.zero Mv.zero))
 have D4:=qD (Blk.row_far (Blk.row_far C4.out (by omega:w.heap.size+4≠w.heap.size+5) (marr MA.zero Mv.zero)) (by omega:w.heap.size+4≠w.heap.size+5+1) (marr MA.zero Mv.zero))
 have D5:=qD (Blk.row_far (Blk.row C5.out (marr MA.zero Mv.zero)) (by omega:w.heap.size+5≠w.heap.size+5+1) (marr MA.zero Mv.zero))
 have D6:=qD (Blk.row (Blk.row_far C6.out (by omega:w.heap.size+6≠w.heap.size+5) (marr MA.zero Mv.zero)) (marr MA.zero Mv.zero))
 have DE:=qD (below_row (below_row CE.out (by omega:w.heap.size≤w.heap.size+5) (marr MA.zero Mv.zero)) (by omega:w.heap.size≤w.heap.size+5+1) (marr MA.zero Mv.zero))
 change Code.wp _ _ _ _ ((wz.setRow (w.heap.size+5) (marr MA.zero Mv.zero)).setRow (w.heap.size+5+1) (marr MA.zero Mv.zero))
 obtain⟨wd,hwd⟩:∃wd,(wz.setRow (w.heap.size+5) (marr MA.zero Mv.zero)).setRow (w.heap.size+5+1) (marr MA.zero Mv.zero)=wd:=⟨_,rfl⟩
 have G0:Hid (Blk wd w.heap.size 35 (marr ma M)):=by rw[←hwd];exact D0.out
 have G1:Hid (Blk wd (w.heap.size+1) 27 (rarr a R)):=by rw[←hwd];exact D1.out
 have G2:Hid (Blk wd (w.heap.size+2) 69 (recOp o).toArray):=by rw[←hwd];exact D2.out
 have G3:Hid (Blk wd (w.heap.size+3) 35 (marr MA.zero Mv.zero)):=by rw[←hwd];exact D3.out
 have G4:Hid (Blk wd (w.heap.size+4) 27 (rarr RA.zero Ro.zero)):=by rw[←hwd];exact D4.out
 have G5:Hid (Blk wd (w.heap.size+5) 35 (marr MA.zero Mv.zero)):=by rw[←hwd];exact D5.out
 have G6:Hid (Blk wd (w.heap.size+6) 35 (marr MA.zero Mv.zero)):=by rw[←hwd];exact D6.out
 have GE:Hid (Below w.heap.size w wd):=by rw[←hwd];exact DE.out
 rw[hwd]
 clear hwd D0 D1 D2 D3 D4 D5 D6 DE C0 C1 C2 C3 C4 C5 C6 CE HWZ HWS E5 E6
 have k0:wd.cell? ⟨w.heap.size+2,0,none⟩=some (.int .i64 o.k):=G2.out.cellM rfl
 have k1:(o.k==1)=false:=by simpa using hk.1
 have k2:(o.k==2)=false:=by simpa using hk.2.1
 have k3:(o.k==3)=false:=by simpa using hk.2.2.1
 have k4:(o.k==4)=false:=by simpa using hk.2.2.2.1
 have k5:(o.k==5)=false:=by simpa using hk.2.2.2.2
 have HP1:Hid (∀y:World,Below wd.heap.size wd y→Calls Tryz.prog 28 #[.agg (marr ma M),.agg (rarr a R),.slice o.DA o.dn o.dc] y (OrR (if M.st=4∨M.st=5 then remL R M.sp M.lo M.hi (o.ps.map Prod.snd) else []) y)):=qD fun y hb=>by
  have hw:=GE.out.step' hb
  exact porph M ma R a o.ps o.DA o.dn o.dc y (HT.out.step hw) (HR.out.step hw) HKF.out.le (HOP.out.sl.step hw) HOK.out.1 HM.out.sp
 have HP2:Hid (∀y:World,Below wd.heap.size wd y→Calls Tryz.prog 29 #[.agg (marr ma M),.agg (rarr a R),.slice o.DA o.dn o.dc] y (OrR (if M.st=4∨M.st=5 then remL R M.sp M.lo M.hi (o.ps.map Prod.snd) else []) y)):=qD fun y hb=>by
  have hw:=GE.out.step' hb
  exact rorph M ma R a o.ps o.DA o.dn o.dc y (HR.out.step hw) HKF.out.le HKF.out.one (HOP.out.sl.step hw) HOK.out.2.2 (Nat.le_trans HOK.out.1 (by omega)) HM.out.sp HS.out.lo
 have HSO:Hid (∀l,StW (if M.st=4∨M.st=5 then remL R M.sp M.lo M.hi (o.ps.map Prod.snd) else []) l→∀x∈l,SmW x):=qD fun l hl=>sm_orph (fun d hd=>by obtain⟨p,hp,rfl⟩:=List.mem_map.1 hd;exact⟨HOK.out.2.2 p hp,HOP.out.sm p hp⟩) hl
 have KSS:Hid (∀y:World,Below wd.heap.size wd y→(fun w'=>(Blk w' w.heap.size 35 (marr ma M)∧Blk w' (w.heap.size+1) 27 (rarr a R))∧w'.cell? ⟨w.heap.size+2,1,none⟩=some (.slice o.DA o.dn o.dc)) y):=qD fun y hb=>⟨⟨G0.out.step hb,G1.out.step hb⟩,(G2.out.step hb).cellM rfl⟩
 have B:Hid (Below wd.heap.size wd wd.drew):=qD ((Below.refl wd.heap.size wd).drew)
 clear hk
 go_upto_region 4 with fail
 clear k0 k1 k2 k3 k4 k5
 refine wp_region_noPanic ?_
 refine wp_region_held_drew (S:=(fun w'=>(Blk w' w.heap.size 35 (marr ma M)∧Blk w' (w.heap.size+1) 27 (rarr a R))∧w'.cell? ⟨w.heap.size+2,1,none⟩=some (.slice o.DA o.dn o.dc))) (by kernel_rfl) ?_ (fun hHeld=>?_)
 ·(try dsimp only);exact KSS.out _ B.out
 generalize wd.drew=v0 at*
 refine rT (v:=.agg (marr ma M)) 0 rfl ?_ ?_
 ·intro w' hSw;exact exec_row rfl rfl hSw.1.1 Tryz.underlying35 rfl (by rw[sizeM];rfl)
 try go_frame
 refine rT (v:=.agg (rarr a R)) 1 rfl ?_ ?_
 ·intro w' hSw;exact exec_row rfl rfl hSw.1.2 Tryz.underlying27 rfl (by rw[sizeR];rfl)
 try go_frame
 refine rT (v:=.agg (marr ma M)) 2 rfl ?_ ?_
 ·intro w' hSw;exact exec_row rfl rfl hSw.1.1 Tryz.underlying35 rfl (by rw[sizeM];rfl)
 try go_frame
 refine rT (v:=.agg (rarr a R)) 3 rfl ?_ ?_
 ·intro w' hSw;exact exec_row rfl rfl hSw.1.2 Tryz.underlying27 rfl (by rw[sizeR];rfl)
 try go_frame
 refine rU 4 rfl ?_
 try go_frame
 refine rU 5 rfl ?_
 try go_frame
 refine rT (v:=.agg (marr ma M)) 7 rfl ?_ ?_
 ·intro w' hSw;exact exec_row rfl rfl hSw.1.1 Tryz.underlying35 rfl (by rw[sizeM];rfl)
 try go_frame
 refine rT (v:=.agg (rarr a R)) 8 rfl ?_ ?_
 ·intro w' hSw;exact exec_row rfl rfl hSw.1.2 Tryz.underlying27 rfl (by rw[sizeR];rfl)
 try go_frame
 refine rU 9 rfl ?_
 try go_frame
 refine rU 10 rfl ?_
 try go_frame
 refine rY 6 rfl fun K hK=>?_
 go_simp
 refine(HP1.out _ B.out).mono ?_
 rintro e3 y1 ⟨A1,m1,c1,ps1,rfl,hst,hw,hb⟩
 have ST1:=qD hst
 have W1:=qD hw
 replace B:=qD (B.out.step' hb)
 clear hb hst hw
 (try go_wp2_with fail)
 clear hHeld
 refine hK.out _ _ ?_ fun hHeld=>?_
 ·(try dsimp only);exact KSS.out _ B.out
 clear hK K
 try go_frame
 refine rY 11 rfl fun K hK=>?_
 go_simp
 refine(HP2.out _ B.out).mono ?_
 rintro e3 y2 ⟨A2,m2,c2,ps2,rfl,hst,hw,hb⟩
 have ST2:=qD hst
 have W2:=qD hw
 have W3:=qD (W1.out.step hb)
 replace B:=qD (B.out.step' hb)
 clear hb hst hw W1
 (try go_wp2_with fail)
 clear hHeld
 refine hK.out _ _ ?_ fun hHeld=>?_
 ·(try dsimp only);exact KSS.out _ B.out
 clear hK K
 try go_frame
 refine rY 12 rfl fun K hK=>?_
 go_simp
 refine(sameWr_eq ps1 ps2 A1 A2 m1 c1 m2 c2 y2 W3.out W2.out (StW.unique ST1.out ST2.out) (fun p hp=>HSO.out _ ST1.out p.2 (List.mem_map_of_mem hp))).mono ?_
 rintro e3 y3 ⟨rfl,hb⟩
 replace B:=qD (B.out.step' hb)
 clear hb W2 W3
 (try go_wp2_with fail)
 clear hHeld
 refine hK.out _ _ ?_ fun hHeld=>?_
 ·(try dsimp only);exact KSS.out _ B.out
 clear hK K
 try go_frame
 refine rY 13 rfl fun K hK=>?_
 refine wp_store_row 35 _ _ rfl (w.heap.size+3) (marr ma M) rfl rfl 35 _ (G3.out.step B.out) (by rw[sizeM];rfl) rfl (marr_all _ _) ?_
 have V3:=qD (Blk.row (G3.out.step B.out) (marr ma M))
 have V0:=qD (Blk.row_far (G0.out.step B.out) (by omega:w.heap.size≠w.heap.size+3) (marr ma M))
 have V1:=qD (Blk.row_far (G1.out.step B.out) (by omega:w.heap.size+1≠w.heap.size+3) (marr ma M))
 have V2:=qD (Blk.row_far (G2.out.step B.out) (by omega:w.heap.size+2≠w.heap.size+3) (marr ma M))
 have V4:=qD (Blk.row_far (G4.out.step B.out) (by omega:w.heap.size+4≠w.heap.size+3) (marr ma M))
 have VE:=qD (below_row (GE.out.step' B.out) (by omega:w.heap.size≤w.heap.size+3) (marr ma M))
 generalize y3.setRow (w.heap.size+3) (marr ma M)=y4 at*
 clear hHeld
 refine hK.out _ _ ?_ fun hHeld=>?_
 ·(try dsimp only);exact⟨⟨V0.out,V1.out⟩,V2.out.cellM rfl⟩
 clear hK K
 try go_frame
 refine rY 14 rfl fun K hK=>?_
 refine wp_store_row 27 _ _ rfl (w.heap.size+4) (rarr a R) rfl rfl 27 _ V4.out (by rw[sizeR];rfl) rfl (rarr_all _ _) ?_
 have X4:=qD (Blk.row V4.out (rarr a R))
 have X0:=qD (Blk.row_far V0.out (by omega:w.heap.size≠w.heap.size+4) (rarr a R))
 have X1:=qD (Blk.row_far V1.out (by omega:w.heap.size+1≠w.heap.size+4) (rarr a R))
 have X2:=qD (Blk.row_far V2.out (by omega:w.heap.size+2≠w.heap.size+4) (rarr a R))
 have X3:=qD (Blk.row_far V3.out (by omega:w.heap.size+3≠w.heap.size+4) (rarr a R))
 have XE:=qD (below_row VE.out (by omega:w.heap.size≤w.heap.size+4) (rarr a R))
 generalize y4.setRow (w.heap.size+4) (rarr a R)=y5 at*
 clear hHeld
 refine hK.out _ _ ?_ fun hHeld=>?_
 ·(try dsimp only);exact⟨⟨X0.out,X1.out⟩,X2.out.cellM rfl⟩
 clear hK K
 try go_frame
 refine rU 15 rfl ?_
 try go_frame
 refine rD ?_ _
 refine NoPanic.normal ?_
 go_wp2_with fail
 exact bodyPost_ret (results_commit rfl _ (w.heap.size+3) (w.heap.size+4) rfl rfl (.bool true) rfl _ ma M a R X3.out X4.out) rfl ⟨M,ma,R,a,rfl,HS.out.up,SameM.refl M,HM.out.step XE.out,HR.out.step XE.out,XE.out⟩
end Go.Proofs.YtlicnjecnehaoaaGreatDoor
