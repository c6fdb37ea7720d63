/- Parts of the proof, joined: IlOwn, RfFor, BoForWalk, YChOpenA, YPrOpen, IxOpen, BoForLaw. -/
import Derived.Test.YtfkdihlbaghajaaGreatDoorOf1
import Derived.Test.YtfkdihlbaghajaaGreatDoorOf22
import Derived.Test.YtfkdihlbaghajaaGreatDoorFr1
import Derived.Test.YtfkdihlbaghajaaGreatDoorOf25
import Derived.Test.YtfkdihlbaghajaaGreatDoorOf23
import Derived.Test.YtfkdihlbaghajaaGreatDoorOf8
import Derived.Test.YtfkdihlbaghajaaGreatDoorRows
import Derived.Test.YtfkdihlbaghajaaGreatDoorOf26
import Derived.Test.YtfkdihlbaghajaaGreatDoorOf18
import Derived.Test.YtfkdihlbaghajaaGreatDoorOf3
import Derived.Test.YtfkdihlbaghajaaGreatDoorCards
import Derived.Test.YtfkdihlbaghajaaGreatDoorTie
import Derived.Lib.LaidIn
import Derived.Lib.LaidU8T
import Derived.PinnedBridge
import Derived.Deep.DeepHandedRow
import Derived.Deep.DeepWitnessRowRef
import Derived.ProofKit
import Derived.SizedLaws
import Derived.OpenShut
import Derived.ShutString
import Derived.ChangeOld
import Derived.Below
import Derived.SevenTiedAt
set_option maxRecDepth 100000
set_option maxHeartbeats 16000000
set_option linter.unusedSimpArgs false
namespace Go.Proofs.YtfkdihlbaghajaaGreatDoor
open Go.RowKit
structure OL(w:World)(base:Nat)(v:Value)(n:Nat)(ls:List IL):Prop where
 ln:ls.length=n
 el:∀h∈ls,SI w h.A h.n h.c h.ys
 sh:(v=.slice none 0 0∧n=0)∨∃(g:Nat) (rest:List Value),v=.slice (some ⟨g,0,none⟩) n (n+rest.length)∧base≤g∧w.heap[g]?=some (.cells (ls.map IL.v++rest).toArray 51 (0,0))∧∀u∈rest,∃A m c,u=Value.slice A m c
theorem OL.nil(w:World)(base:Nat):OL w base (.slice none 0 0) 0 []:=⟨rfl,fun _ h=>(by cases h),.inl ⟨rfl,rfl⟩⟩
theorem OL.step{w w':World}{base n:Nat}{v:Value}{ls:List IL}(h:OL w base v n ls)(hb:Below w.heap.size w w'):OL w' base v n ls:=by
 refine⟨h.ln,fun x hx=>(h.el x hx).step hb,?_⟩
 rcases h.sh with k|⟨g,rest,k1,k2,k3,k4⟩
 ·exact .inl k
 ·exact .inr ⟨g,rest,k1,k2,by rw[hb.block g (Array.getElem?_eq_some_iff.1 k3).1];exact k3,k4⟩
theorem OL.cap{w:World}{base n:Nat}{v:Value}{ls:List IL}(h:OL w base v n ls):∃A c,v=.slice A n c:=by
 rcases h.sh with⟨rfl,rfl⟩|⟨g,rest,k1,_⟩
 ·exact⟨_,_,rfl⟩
 ·exact⟨_,_,k1⟩
theorem OL.bl{w:World}{base n:Nat}{A:Option Addr}{c:Nat}{ls:List IL}(h:OL w base (.slice A n c) n ls)(hz:n*24≤reach):BL w A n c ls:=by
 rcases h.sh with⟨k,rfl⟩|⟨g,rest,k1,k2,k3,k4⟩
 ·cases k
  obtain rfl:=List.eq_nil_of_length_eq_zero h.ln
  exact⟨SR.nil,hz,h.el⟩
 ·cases k1
  refine⟨⟨h.ln.symm,Nat.le_add_right _ _,fun _=>⟨g,0,rfl,(Array.getElem?_eq_some_iff.1 k3).1,fun i x hi j v hj=>?_⟩⟩,hz,h.el⟩
  match j,hj with
  | 0,hj=>
   simp[recIL] at hj
   subst hj
   rw[Nat.zero_add,Nat.mul_one,Nat.add_zero,cell_of_row w g i _ _ (0,0) k3,List.getElem?_toArray,List.getElem?_append_left (by rw[List.length_map];exact(List.getElem?_eq_some_iff.1 hi).1),List.getElem?_map,hi]
   rfl
  | j+1,hj=>simp[recIL] at hj
theorem zeros_sl(n:Nat):∀u∈(Builtin.zeroCells #[Value.slice none 0 0] n).toList,∃A m c,u=Value.slice A m c:=by
 intro u hu
 simp only[Builtin.zeroCells,Array.toList_map,List.mem_map,Array.mem_toList_iff] at hu
 obtain⟨i,_,rfl⟩:=hu
 refine⟨none,0,0,?_⟩
 simp[Nat.mod_one]
theorem run_append_ol(w:World)(base:Nat)(i:TypeInfo)(hi:Tryz.prog.info? 51=some i)(hz:i.zero=some (.slice none 0 0))(hs:i.size=1)(hby:i.bytes=24)(ty:TypeId)(v:Value)(n:Nat)(ls:List IL)(hown:OL w base v n ls)(h0:0<base)(hb:base≤w.heap.size)(a:Addr)(c:Nat)(q:IL)(hq:w.cell? (a.add 0)=some q.v)(hsi:SI w q.A q.n q.c q.ys)(hn:n≤5000000000000):
 ∃v' w',(Builtin.append_ #[59,59] ty #[v,.slice (some a) 1 c]).run Tryz.prog w=.ok v' w'∧OL w' base v' (n+1) (ls++[q])∧Below base w w':=by
 have hnews:∀j u,[q.v][j]?=some u→w.cell? (a.add j)=some u:=by
  intro j u hj
  match j,hj with
  | 0,hj=>simp at hj;subst hj;exact hq
  | j+1,hj=>simp at hj
 have new:∀(cap:Nat),OL (w.drew.alloc (.cells ((ls.map IL.v).toArray++[q.v].toArray++Builtin.zeroCells (Value.slice none 0 0).cells (cap-(n+1))) 51)) base (.slice (some ⟨w.heap.size,0,none⟩) (n+1) (n+1+(cap-(n+1)))) (n+1) (ls++[q])∧Below base w (w.drew.alloc (.cells ((ls.map IL.v).toArray++[q.v].toArray++Builtin.zeroCells (Value.slice none 0 0).cells (cap-(n+1))) 51)):=by
  intro cap
  have hB:Below w.heap.size w (w.drew.alloc (.cells ((ls.map IL.v).toArray++[q.v].toArray++Builtin.zeroCells (Value.slice none 0 0).cells (cap-(n+1))) 51)):=⟨rfl,rfl,rfl,by simp,fun k hk=>heap_alloc_old w.drew _ hk⟩
  refine⟨⟨by rw[List.length_append,hown.ln];rfl,fun x hx=>?_,.inr ⟨w.heap.size,(Builtin.zeroCells #[Value.slice none 0 0] (cap-(n+1))).toList,?_,hb,?_,zeros_sl _⟩⟩,hB.mono hb⟩
  ·rcases List.mem_append.1 hx with hx|hx
   ·exact(hown.el x hx).step hB
   ·obtain rfl:=List.mem_singleton.1 hx
    exact hsi.step hB
  ·rw[Array.length_toList,size_zeroCells]
   simp
  ·have e:(ls.map IL.v).toArray++[q.v].toArray++Builtin.zeroCells (Value.slice none 0 0).cells (cap-(n+1))=((ls++[q]).map IL.v++(Builtin.zeroCells #[Value.slice none 0 0] (cap-(n+1))).toList).toArray:=by
    apply Array.ext'
    simp only[Array.toList_append,List.map_append,List.map_cons,List.map_nil]
    rfl
   have k:=heap_alloc_new w.drew (.cells ((ls.map IL.v).toArray++[q.v].toArray++Builtin.zeroCells (Value.slice none 0 0).cells (cap-(n+1))) 51)
   rw[e] at k ⊢
   exact k
 rcases hown.sh with⟨rfl,rfl⟩|⟨g,rest,rfl,hg,hh,hr⟩
 ·obtain rfl:=List.eq_nil_of_length_eq_zero hown.ln
  have hr:=run_append_nil (P:=Tryz.prog) w 59 ty 51 i (.slice none 0 0) Tryz.underlying59 hi hz a 1 c [q.v] (by rw[hs];rfl) hnews (by omega) (by omega) (by rw[hby];omega)
  have hk:=new (grownCap w 1 0 51)
  have hge:=grownCap_ge w 1 0 51
  simp only[List.map_nil,Nat.zero_add,Nat.add_sub_cancel' hge,Array.empty_append] at hk
  exact⟨_,_,hr,hk.1,hk.2⟩
 ·cases rest with
  | cons r rest=>
   have hl:(ls.map IL.v++r::rest).length=n+(rest.length+1):=by rw[List.length_append,List.length_map,hown.ln];rfl
   have hrun:=run_append_room (P:=Tryz.prog) w 59 ty 51 i Tryz.underlying59 hi g n (n+(r::rest).length) (ls.map IL.v++r::rest).toArray hh a 1 c [q.v] (by rw[hs];rfl) hnews (by intro u hu;obtain rfl:=List.mem_singleton.1 hu;rfl) (by rw[List.length_cons];omega) (by rw[hs,List.size_toArray,hl];simp)
   have e:((ls.map IL.v++r::rest).toArray.toList.take (n*i.size)++[q.v]++(ls.map IL.v++r::rest).toArray.toList.drop (n*i.size+[q.v].length))=(ls++[q]).map IL.v++rest:=by
    rw[hs,Nat.mul_one]
    have hm:n=(ls.map IL.v).length:=by rw[List.length_map,hown.ln]
    show(ls.map IL.v++r::rest).take n++[q.v]++(ls.map IL.v++r::rest).drop (n+1)=_
    rw[List.take_left' hm.symm,←List.drop_drop,List.drop_left' hm.symm]
    simp
   rw[e] at hrun
   have hsl:AllSl w g:=fun off v hv=>by
    rw[cell_of_row w g off _ _ (0,0) hh,List.getElem?_toArray] at hv
    rcases List.mem_append.1 (List.mem_of_getElem? hv) with h|h
    ·obtain⟨x,_,rfl⟩:=List.mem_map.1 h
     exact⟨_,_,_,rfl⟩
    ·exact hr _ h
   have hfar:∀{x:IL},SI w x.A x.n x.c x.ys→SI (w.setRow g ((ls++[q]).map IL.v++rest).toArray) x.A x.n x.c x.ys:=fun h=>h.far (by omega) hsl (fun b hb _=>setRow_other w g b _ hb) (by simp)
   refine⟨_,_,hrun,⟨by rw[List.length_append,hown.ln];rfl,fun x hx=>?_,.inr ⟨g,rest,by rw[List.length_cons,Nat.add_assoc,Nat.add_comm 1],hg,setRow_heap w g _ _ _ _ hh,fun u hu=>hr u (List.mem_cons_of_mem _ hu)⟩⟩,⟨rfl,rfl,rfl,by simp,fun k hk=>setRow_other w g k _ (by omega)⟩⟩
   rcases List.mem_append.1 hx with hx|hx
   ·exact hfar (hown.el x hx)
   ·obtain rfl:=List.mem_singleton.1 hx
    exact hfar hsi
  | nil=>
   have hrun:=run_append_grow (P:=Tryz.prog) w 59 ty 51 i (.slice none 0 0) Tryz.underlying59 hi hz ⟨g,0,none⟩ n n (ls.map IL.v) (by rw[hs,List.length_map,hown.ln,Nat.mul_one]) (fun j v hv=>by
    rw[Addr.add_lit,Nat.zero_add,cell_of_row w g j _ _ (0,0) hh,List.append_nil,List.getElem?_toArray];exact hv) a 1 c [q.v] (by rw[hs];rfl) hnews (by omega) (by omega) (growslice_fits (by omega) (by rw[hby];omega))
   have hk:=new (grownCap w (n+1) n 51)
   have hge:=grownCap_ge w (n+1) n 51
   simp only[Nat.add_sub_cancel' hge] at hk
   exact⟨_,_,hrun,hk.1,hk.2⟩
theorem wpList_append_ol{ops:Array Oper}{rest:List Oper}{o:Oper}{a:Act}{w:World}{Q:Exit→Act→World→Prop}(hgd:o.guard=none)(s x:Operand)(ho:o.op=.call {callee:=.builtin .append,args:=#[s,x],argTypes:=#[59,59]})(base:Nat)(i:TypeInfo)(hi:Tryz.prog.info? 51=some i)(hz:i.zero=some (.slice none 0 0))(hsz:i.size=1)(hby:i.bytes=24)(v:Value)(n:Nat)(ls:List IL)(hs:a.eval s=v)(hown:OL w base v n ls)(h0:0<base)(hb:base≤w.heap.size)(ad:Addr)(c:Nat)(q:IL)(hx:a.eval x=.slice (some ad) 1 c)(hq:w.cell? (ad.add 0)=some q.v)(hsi:SI w q.A q.n q.c q.ys)(hn:n≤5000000000000)(h:∀v' w',OL w' base v' (n+1) (ls++[q])→Below base w w'→wpList Tryz.prog ops Q rest (a.put o.dst v') w'):wpList Tryz.prog ops Q (o::rest) a w:=
 wpList_plain hgd fun K hK=>by
  obtain⟨v',w',hr,h2,h3⟩:=run_append_ol w base i hi hz hsz hby o.type v n ls hown h0 hb ad c q hq hsi hn
  unfold Oper.wp execOp
  simp only[ho,resolve,invoke,builtin,Sem.run_bind,Sem.run_pure,Result.andThen_ok,List.map_toArray,List.map_cons,List.map_nil,hs,hx,hr]
  exact hK _ _ (h v' w' h2 h3)
theorem prod_le{m b s:Nat}(h:m+b≤s):4*(m*b)≤s*s:=by
 refine Nat.le_trans ?_ (Nat.mul_le_mul h h)
 rcases Nat.le_total m b with k|k
 ·obtain⟨d,rfl⟩:=Nat.le.dest k
  have e:(m+(m+d))*(m+(m+d))=4*(m*(m+d))+d*d:=by grind
  omega
 ·obtain⟨d,rfl⟩:=Nat.le.dest k
  have e:(b+d+b)*(b+d+b)=4*((b+d)*b)+d*d:=by grind
  omega
theorem app_at{α:Type}{l:List α}{q h:α}{j:Nat}(e:(l++[q])[j]?=some h):l[j]?=some h∨(j=l.length∧h=q):=by
 rw[List.getElem?_append] at e
 split at e
 ·exact .inl e
 ·rename_i hlt
  cases hj:j-l.length with
  | zero=>rw[hj] at e;simp at e;exact .inr ⟨by omega,e.symm⟩
  | succ n=>rw[hj] at e;simp at e
theorem next_at{ks:List Od}{ls:List IL}{q:Od}{h:IL}{i k:Nat}{S:Od→Cut→Prop}(hl:ls.length=i)(hq:ks[i]?=some q)(hal:∀(j:Nat) (o:Od) (h:IL),ks[j]?=some o→ls[j]?=some h→NfL (S o) k h)(hn:NfL (S q) k h):∀(j:Nat) (o:Od) (g:IL),ks[j]?=some o→(ls++[h])[j]?=some g→NfL (S o) k g:=by
 intro j o g ho hg
 rcases app_at hg with hg|⟨rfl,rfl⟩
 ·exact hal j o g ho hg
 ·rw[hl,hq] at ho;cases ho;exact hn
theorem nfs_of{ks:List Od}{ls:List IL}{k K:Nat}{S:Od→Cut→Prop}(hl:ls.length=ks.length)(hal:∀(j:Nat) (o:Od) (h:IL),ks[j]?=some o→ls[j]?=some h→NfL (S o) k h)(hk:k≤K):Nfs (ks.map S) K ls:=by
 refine⟨by rw[List.length_map,hl],fun i T h hT hh=>?_⟩
 rw[List.getElem?_map] at hT
 obtain⟨o,ho,rfl⟩:=Option.map_eq_some_iff.1 hT
 have h1:=hal i o h ho hh
 exact⟨h1.nf,Nat.le_trans h1.le hk⟩
theorem nfl_of{S:Cut→Prop}{k m c:Nat}{A:Option Addr}{ys:List PI}{nf:List (Cut×Cut)}{w:World}(hy:ys.map ivP=nf.map ivOf)(hn:IsNF S nf)(hm:m≤k)(hs:SI w A m c ys):NfL S k ⟨A,m,c,ys⟩:=
 ⟨⟨nf,hy,hn⟩,by have:=hs.sr.ln;show ys.length≤k;omega⟩
theorem fill_il(A:Option Addr)(n c:Nat):Instr.fill (fun i=>some (i*1,1)) ((Array.range (1*1)).map ((Value.slice none 0 0).cells[·%(Value.slice none 0 0).cells.size]!)) [(0,.slice A n c)]=some #[.slice A n c]:=by kernel_rfl
theorem build_il{a:Act}{t:Tmp}{A:Option Addr}{n c:Nat}(ht:a.eval (.tmp t)=.slice A n c):
 Instr.fill (fun i=>some (i*1,1)) ((Array.range (1*1)).map ((Value.slice none 0 0).cells[·%(Value.slice none 0 0).cells.size]!)) ((#[(0,Operand.tmp t)]:Array (Nat×Operand)).map fun(i,x)=>(i,a.eval x)).toList=some #[.slice A n c]:=by
 have h:((#[(0,Operand.tmp t)]:Array (Nat×Operand)).map fun(i,x)=>(i,a.eval x)).toList=[(0,.slice A n c)]:=by simp[ht]
 rw[h]
 exact fill_il A n c
theorem ol_cell(w:World)(v:Value)(t:TypeId):(w.alloc (.cells #[v] t)).cell? ((⟨w.heap.size,0,none⟩:Addr).add 0)=some v:=by
 rw[Addr.add_lit]
 exact((Blk.new_at rfl:Blk (w.alloc (.cells #[v] t)) w.heap.size t #[v]).cell 0).trans rfl
theorem rparts25_any(p:PrT)(w:World)(hw:WP w p):Calls Tryz.prog 64 #[aggPr p] w (PartsR p w):=by
 have W:=qD hw.open
 have B0:Hid (Blk (w.alloc (.cells (arrPr p) 41)) w.heap.size 41 (arrPr p)):=Blk.new_at rfl
 have BE:=qD ((Below.refl w.heap.size w).alloc (qL) (Obj.cells (arrPr p) 41))
 clear hw
 go_enter Tryz.func64,Tryz.ntmps64
 go_upto_region 1 with fail
 change Code.wp _ _ _ _ (w.alloc (.cells (arrPr p) 41))
 generalize w.alloc (.cells (arrPr p) 41)=wa at*
 obtain⟨d0,_,_,_,_,_,_,d24⟩:=pr_cells B0.out
 by_cases h20:p.op=20
 ·have hb:(p.op==20)=true:=by simp[h20]
  have HE:Hid (partsP p=p.kids):=by unfold Hid partsP;rw[if_pos h20]
  clear h20
  go_wp2_with fail
  go_ret
  exact⟨p.kA,p.kn,p.kc,rfl,by rw[HE.out];exact W.out.sr.step BE.out,W.out.ksz,BE.out⟩
 ·have hb:(p.op==20)=false:=by simp[h20]
  have HE:Hid (partsP p=[p]):=by unfold Hid partsP;rw[if_neg h20]
  have RF:=qD (pr_full B0.out)
  obtain⟨j0,hj0,hw0,hw1,hw2⟩:=info_parts info_predF
  clear h20 d24
  go_wp2_with (first
   | ((with_reducible show wpList _ _ _ (⟨_,.load 41 _,_,_,_,_⟩::_) _ _);refine wpList_mid_w rfl 41 _ rfl w.heap.size 0 rfl _ _ RF.out Tryz.underlying41 rfl (by kernel_rfl) ?_)
   | ((with_reducible show wpList _ _ _ (⟨_,.buildSlice _ _ _,_,_,_,_⟩::_) _ _);refine wpList_buildSlice rfl 39 41 1 _ rfl (arrPr p) j0 _ Tryz.underlying39 hj0 hw0 (by rw[hw1];decide) (by rw[hw1];decide) (by rw[hw1];exact build_pred rfl) ?_))
  go_ret
  exact⟨_,1,1,rfl,by rw[HE.out];exact sr_pred (Blk.new_at rfl),by decide,BE.out.alloc BE.out.size _⟩
theorem rfor_any(x:IxT)(mu:Bool)(p:PrT)(w:World)(hT:Tabs w)(hx:WIx w x)(hw:WP w p)(hv:VPr p)(hz:p.sz≤1048576):
 Calls Tryz.prog 19 #[aggIx x,.bool mu,aggPr p] w (ForOk (forR x.kind mu x.ks p) (p.sz+1) w):=by
 obtain⟨j0,hj0,hz0,hz1,hz2⟩:=info_parts info_ivs
 have HT:=qD hT
 have HK:=qD hx.ks
 have HN:=qD hx.ks.ln
 have HWP:=qD hw
 have HZ:=qD hz
 have hkz:x.kn≤4398046511104:=by obtain⟨os,h⟩:=hx.ks;have:=h.sz;unfold reach at this;omega
 have HO:Hid (∀k,(k=p∨k∈partsP p)→∀(A:Option Addr) (n c:Nat) (l:List ByteArray) (wr:World),Below w.heap.size w wr→ST wr A n c l→Calls Tryz.prog 15 #[aggPr k,.slice A n c] wr (ROf (ofS l k) k.sz wr)):=qD fun k hk A n c l wr hb hl=>by
  have h1:WP w k∧VPr k∧k.sz≤p.sz:=by
   rcases hk with rfl|hk
   ·exact⟨hw,hv,qL⟩
   ·exact⟨parts_wp hw hk,parts_vpr hv hk,Nat.le_trans (szL_ge hk) partsP_sz⟩
  exact rof_any k A n c l wr (h1.1.step hb) h1.2.1 (HT.out.step hb) hl (by have:=h1.2.2;omega)
 have B3:Hid (Blk ((w.alloc (.cells (arrIx x) 57)).alloc (.cells (arrPr p) 41)) w.heap.size 57 (arrIx x)):=(Blk.new_at rfl).alloc _
 have B5:Hid (Blk ((w.alloc (.cells (arrIx x) 57)).alloc (.cells (arrPr p) 41)) (w.heap.size+1) 41 (arrPr p)):=Blk.new_at (by simp)
 have BE:Hid (Below w.heap.size w ((w.alloc (.cells (arrIx x) 57)).alloc (.cells (arrPr p) 41))):=((Below.refl _ _).alloc (qL) _).alloc (by simp) _
 have H0:Hid (0<((w.alloc (.cells (arrIx x) 57)).alloc (.cells (arrPr p) 41)).heap.size):=by simp[Hid]
 clear hT hx hw hv hz
 go_enter Tryz.func19,Tryz.ntmps19
 go_upto_region 2 with fail
 change Code.wp _ _ _ _ ((w.alloc (.cells (arrIx x) 57)).alloc (.cells (arrPr p) 41))
 generalize (w.alloc (.cells (arrIx x) 57)).alloc (.cells (arrPr p) 41)=wa at*
 have d1:=(ix_cells B3.out).d1
 by_cases hkd:x.kind=1
 rotate_left
 ·have hb:(x.kind != 1)=true:=by simpa using hkd
  have HR:=qD (forR_other hkd mu x.ks p)
  clear hkd
  go_upto_region 4 with fail
  go_loopw [8,9] (fun v8 v9 wr=>∃(i:Nat) (ls:List IL),i≤x.kn∧v9=.int .i64 i∧Below wa.heap.size wa wr∧OL wr wa.heap.size v8 i ls∧∀(j:Nat) (o:Od) (h:IL),x.ks[j]?=some o→ls[j]?=some h→NfL allS 1 h) (fun _ v9 _=>x.kn-(intOf v9).toNat)
  case atStart=>exact⟨0,[],Nat.zero_le _,rfl,Below.refl _ _,OL.nil _ _,fun j o h _ hj=>by simp at hj⟩
  case round=>
   clear d1
   obtain⟨i,ls,hi,rfl,hbb,hol,hal⟩:=hrel
   have BB:=qD hbb
   have HOL:=qD hol
   have HAL:=qD hal
   have HLL:=qD hol.ln
   have d2:=(ix_cells (B3.out.step hbb)).d2
   clear hbb hal
   by_cases hli:i<x.kn
   ·clear hol
    obtain⟨q,hq⟩:∃q,x.ks[i]?=some q:=⟨_,List.getElem?_eq_getElem (by have:=HN.out;omega)⟩
    have HQ:=qD hq
    have i0:(0:Int)≤(i:Int):=by omega
    have i1:(i:Int)<(x.kn:Int):=by omega
    clear hq
    go_wp2_with fail
    refine(rall_any wr).mono ?_
    rintro e w3 ⟨A3,m3,c3,ys,nf,rfl,hy3,hn3,hm3,hs3,hb3⟩
    have HN4:=qD (nfl_of hy3 hn3 hm3 hs3)
    have HS3:=qD hs3
    replace HOL:=qD (HOL.out.step hb3)
    replace BB:=qD (BB.out.step' hb3)
    clear hy3 hn3 hm3 hs3 hb3 d2
    go_wp2_with (first
     | ((with_reducible show wpList _ _ _ (⟨_,.buildSlice _ _ _,_,_,_,_⟩::_) _ _);refine wpList_buildSlice rfl 59 51 1 _ rfl #[.slice A3 m3 c3] j0 _ Tryz.underlying59 hj0 hz0 (by rw[hz1];decide) (by rw[hz1];decide) (by rw[hz1];exact build_il rfl) ?_)
     | ((with_reducible show wpList _ _ _ (⟨_,.call {callee:=.builtin .append,args:=_,argTypes:=_},_,_,_,_⟩::_) _ _);refine wpList_append_ol rfl _ _ rfl wa.heap.size j0 hj0 hz0 hz1 hz2 _ _ ls rfl (HOL.out.step ((Below.refl _ _).alloc (qL) _)) H0.out (by have:=BB.out.size;simp;omega) ⟨w3.heap.size,0,none⟩ 1 ⟨A3,m3,c3,ys⟩ rfl (ol_cell _ _ _) (HS3.out.step ((Below.refl _ _).alloc (qL) _)) (by omega) ?_;intro v' w5 hO hB5))
    have BB5:=qD ((BB.out.alloc BB.out.size _).trans hB5)
    have HO5:=qD hO
    clear hO hB5 BB HOL HS3
    go_wp2_with fail
    go_roundw
    case rel=>exact⟨i+1,_,hli,by go_num,BB5.out,HO5.out,next_at (S:=fun _=>allS) HLL.out HQ.out HAL.out HN4.out⟩
    case measure=>simp[intOf];omega
   ·obtain rfl:i=x.kn:=by omega
    obtain⟨A9,c9,rfl⟩:=hol.cap
    clear hol hli
    go_wp2_with fail
    go_ret2
    rw[HR.out]
    exact⟨_,_,_,ls,rfl,HOL.out.bl (by unfold reach;omega),nfs_of (S:=fun _=>allS) (by rw[HLL.out,HN.out]) HAL.out (by omega),BE.out.step' BB.out⟩
 ·have hb:(x.kind != 1)=false:=by simpa using hkd
  have HKD:=qD hkd
  have RF:=qD (pr_full B5.out)
  have HPA:=qD (rparts25_any p wa (HWP.out.step BE.out))
  clear hkd
  go_upto_region 9 with(first
   | ((with_reducible show wpList _ _ _ (⟨_,.load 41 _,_,_,_,_⟩::_) _ _);refine wpList_mid_w rfl 41 _ rfl (w.heap.size+1) 0 rfl _ _ RF.out Tryz.underlying41 rfl (by kernel_rfl) ?_)
   | (go_at_call 64;refine HPA.out.mono ?_;rintro e wb ⟨PA,pn,pc,rfl,hsr,hpz,hb3⟩))
  replace B3:=qD (B3.out.step hb3)
  replace B5:=qD (B5.out.step hb3)
  replace BE:=qD (BE.out.step' hb3)
  replace H0:=qD (Nat.lt_of_lt_of_le H0.out hb3.size)
  have HPS:=qD hsr
  have HPL:=qD hsr.ln
  have hpn:pn≤351843720888:=by unfold reach at hpz;omega
  clear hsr hpz hb3 RF HPA d1 hb
  cases mu
  rotate_left
  ·have HR:Hid (forR x.kind true x.ks p=(x.ks.map fun o=>(ofS o.p p).1,(x.ks.any fun o=>(ofS o.p p).2)&&decide ((partsP p).length=1))):=by rw[Hid,HKD.out];exact forR_multi x.ks p
   go_upto_region 12 with fail
   go_loopw [8,11,12] (fun v8 v11 v12 wr=>∃(i:Nat) (b:Bool) (ls:List IL),i≤x.kn∧v12=.int .i64 i∧v11=.bool b∧Below wb.heap.size wb wr∧OL wr wb.heap.size v8 i ls∧(∀(j:Nat) (o:Od) (h:IL),x.ks[j]?=some o→ls[j]?=some h→NfL (ofS o.p p).1 p.sz h)∧b=(x.ks.take i).any fun o=>(ofS o.p p).2) (fun _ _ v12 _=>x.kn-(intOf v12).toNat)
   case atStart=>exact⟨0,false,[],Nat.zero_le _,rfl,rfl,Below.refl _ _,OL.nil _ _,fun j o h _ hj=>by simp at hj,rfl⟩
   case round=>
    obtain⟨i,b,ls,hi,rfl,rfl,hbb,hol,hal,hbe⟩:=hrel
    have BB:=qD hbb
    have HOL:=qD hol
    have HAL:=qD hal
    have HBE:=qD hbe
    have d2:=(ix_cells (B3.out.step hbb)).d2
    clear hbb hal hbe
    by_cases hli:i<x.kn
    ·clear hol
     obtain⟨os,hos⟩:=HK.out
     obtain⟨kb,off,o,hA,hkb,ho,e0,e1⟩:=hos.sr.at2 hli
     obtain⟨q,hq⟩:∃q,x.ks[i]?=some q:=⟨_,List.getElem?_eq_getElem (by have:=HN.out;omega)⟩
     have HST:=qD (hos.el i o q ho hq).st
     have HQ:=qD hq
     have i0:(0:Int)≤(i:Int):=by omega
     have i1:(i:Int)<(x.kn:Int):=by omega
     have e0':=qD e0
     have HA:=qD hA
     have HKB:=qD hkb
     clear hos ho hq e0 e1 hA hkb
     go_upto_region 14 with fail
     clear d2
     have BER:=qD (BE.out.step' BB.out)
     have KS:Hid (∀w',Below wr.heap.size wr w'→(fun w'=>(Instr.loadAt 41 (.pointer (some ⟨w.heap.size+1,0,none⟩))).run Tryz.prog w'=.ok (aggPr p) w'∧w'.cell? ⟨w.heap.size,2,none⟩=some (.slice (some ⟨kb,off,none⟩) x.kn x.kc)∧w'.cell? ⟨kb,off+i*2,none⟩=some (.slice o.A o.n o.c)) w'):=qD fun w' hb=>⟨load_pred (arrPr p) rfl _ _ (B5.out.step (BB.out.step' hb)),by rw[←HA.out];exact(ix_cells (B3.out.step (BB.out.step' hb))).d2,(Below.cell (BE.out.step' (BB.out.step' hb)) (p:=⟨kb,off+i*2,none⟩) HKB.out).trans e0'.out⟩
     have B:=qD ((Below.refl wr.heap.size wr).drewN 1)
     go_cut [13,14] (fun v13 v14 wx=>∃(A3:Option Addr) (m3 c3:Nat) (ys:List PI) (nf:List (Cut×Cut)),v13=.slice A3 m3 c3∧v14=.bool (ofS q.p p).2∧ys.map ivP=nf.map ivOf∧IsNF (ofS q.p p).1 nf∧m3≤p.sz∧SI wx A3 m3 c3 ys∧Below wr.heap.size wr wx)
     case first=>
      refine wp_region_noPanic ?_
      refine wp_region_held_drew (S:=(fun w'=>(Instr.loadAt 41 (.pointer (some ⟨w.heap.size+1,0,none⟩))).run Tryz.prog w'=.ok (aggPr p) w'∧w'.cell? ⟨w.heap.size,2,none⟩=some (.slice (some ⟨kb,off,none⟩) x.kn x.kc)∧w'.cell? ⟨kb,off+i*2,none⟩=some (.slice o.A o.n o.c))) (by kernel_rfl) ?_ (fun hHeld=>?_)
      ·(try dsimp only);exact KS.out _ B.out
      refine rT (v:=aggPr p) 0 rfl ?_ ?_
      (skip)
      ·intro w' hSw;exact exec_load (p:=.pointer (some ⟨w.heap.size+1,0,none⟩)) rfl rfl hSw.1
      try go_frame
      refine rT (v:=?_) 1 rfl ?_ ?_
      rotate_left
      ·intro w' hSw;(try dsimp only at hSw);obtain⟨_,hSw1,hSw2⟩:=hSw;go_simp;(try with_reducible rfl)
      try go_frame
      refine rT (v:=?_) 2 rfl ?_ ?_
      rotate_left
      ·intro w' hSw;(try dsimp only at hSw);obtain⟨_,hSw1,hSw2⟩:=hSw;go_simp;(try with_reducible rfl)
      try go_frame
      refine rT (v:=?_) 3 rfl ?_ ?_
      rotate_left
      ·intro w' hSw;(try dsimp only at hSw);obtain⟨_,hSw1,hSw2⟩:=hSw;go_simp;(try with_reducible rfl)
      try go_frame
      refine rT (v:=?_) 4 rfl ?_ ?_
      rotate_left
      ·intro w' hSw;(try dsimp only at hSw);obtain⟨_,hSw1,hSw2⟩:=hSw;go_simp;(try with_reducible rfl)
      try go_frame
      refine rT (v:=?_) 5 rfl ?_ ?_
      rotate_left
      ·intro w' hSw;(try dsimp only at hSw);obtain⟨_,hSw1,hSw2⟩:=hSw;go_simp;(try with_reducible rfl)
      try go_frame
      refine rT (v:=?_) 6 rfl ?_ ?_
      rotate_left
      ·intro w' hSw;(try dsimp only at hSw);obtain⟨_,hSw1,hSw2⟩:=hSw;go_simp;(try with_reducible rfl)
      try go_frame
      refine rY 7 rfl fun K hK=>?_
      go_simp
      refine(HO.out p (.inl rfl) o.A o.n o.c q.p _ (BER.out.step' B.out) (HST.out.step (BER.out.step' B.out))).mono ?_
      rintro e3 w3 ⟨A3,m3,c3,ys,nf,rfl,hy,hnf,hmk,hsi,hb3⟩
      replace B:=qD (B.out.step' hb3)
      have HS3:=qD hsi
      have HY3:=qD hy
      have HN3:=qD hnf
      have HM3:=qD hmk
      clear hb3 hsi hy hnf hmk
      (try go_wp2_with fail)
      clear hHeld
      refine hK.out _ _ ?_ fun hHeld=>?_
      ·(try dsimp only);exact KS.out _ B.out
      clear hK K
      try go_frame
      refine rT (v:=?_) 8 rfl ?_ ?_
      rotate_left
      ·intro w' hSw;(try dsimp only at hSw);obtain⟨_,hSw1,hSw2⟩:=hSw;go_simp;(try with_reducible rfl)
      try go_frame
      refine rT (v:=?_) 9 rfl ?_ ?_
      rotate_left
      ·intro w' hSw;(try dsimp only at hSw);obtain⟨_,hSw1,hSw2⟩:=hSw;go_simp;(try with_reducible rfl)
      try go_frame
      refine rT (v:=?_) 10 rfl ?_ ?_
      rotate_left
      ·intro w' hSw;(try dsimp only at hSw);obtain⟨_,hSw1,hSw2⟩:=hSw;go_simp;(try with_reducible rfl)
      try go_frame
      refine rT (v:=?_) 11 rfl ?_ ?_
      rotate_left
      ·intro w' hSw;(try dsimp only at hSw);obtain⟨_,hSw1,hSw2⟩:=hSw;go_simp;(try with_reducible rfl)
      try go_frame
      refine rT (v:=?_) 12 rfl ?_ ?_
      rotate_left
      ·intro w' hSw;(try dsimp only at hSw);obtain⟨_,hSw1,hSw2⟩:=hSw;go_simp;(try with_reducible rfl)
      try go_frame
      refine rD ?_ _
      refine NoPanic.normal ?_
      clear hHeld
      all_goals
       go_wp2_with fail
       go_meet
       exact⟨A3,m3,c3,ys,nf,rfl,rfl,HY3.out,HN3.out,HM3.out,HS3.out,B.out⟩
     case rest=>
      clear KS B
      obtain⟨A3,m3,c3,ys,nf,rfl,rfl,hy3,hn3,hm3,hs3,hb3'⟩:=hcut
      have HS3:=qD hs3
      have HY3:=qD hy3
      have HN3:=qD hn3
      have HM3:=qD hm3
      have HLL:=qD HOL.out.ln
      replace HOL:=qD (HOL.out.step hb3')
      replace BB:=qD (BB.out.step' hb3')
      have HN4:=qD (nfl_of hy3 hn3 hm3 hs3)
      obtain⟨z,hzz⟩:∃z,z=(ofS q.p p).2:=⟨_,rfl⟩
      rw[←hzz]
      have HBZ:Hid ((b||z)=((x.ks.take (i+1)).any fun o=>(ofS o.p p).2)):=by rw[Hid,any_snoc _ HQ.out,←HBE.out,←hzz]
      clear hy3 hn3 hm3 hs3 hb3' HY3 HN3 HM3 hzz HBE
      cases b
      ·go_upto_region 13 with(first
        | ((with_reducible show wpList _ _ _ (⟨_,.buildSlice _ _ _,_,_,_,_⟩::_) _ _);refine wpList_buildSlice rfl 59 51 1 _ rfl #[.slice A3 m3 c3] j0 _ Tryz.underlying59 hj0 hz0 (by rw[hz1];decide) (by rw[hz1];decide) (by rw[hz1];exact build_il rfl) ?_)
        | ((with_reducible show wpList _ _ _ (⟨_,.call {callee:=.builtin .append,args:=_,argTypes:=_},_,_,_,_⟩::_) _ _);refine wpList_append_ol rfl _ _ rfl wb.heap.size j0 hj0 hz0 hz1 hz2 _ _ ls rfl (HOL.out.step ((Below.refl _ _).alloc (qL) _)) H0.out (by have:=BB.out.size;simp;omega) ⟨wc.heap.size,0,none⟩ 1 ⟨A3,m3,c3,ys⟩ rfl (ol_cell _ _ _) (HS3.out.step ((Below.refl _ _).alloc (qL) _)) (by omega) ?_;intro v' w5 hO hB5))
       have BB5:=qD ((BB.out.alloc BB.out.size _).trans hB5)
       have HO5:=qD hO
       clear hO hB5 BB HOL HS3
       go_wp2_with fail
       go_roundw
       case rel=>exact⟨i+1,_,_,hli,by go_num,rfl,BB5.out,HO5.out,next_at (S:=fun o=>(ofS o.p p).1) HLL.out HQ.out HAL.out HN4.out,HBZ.out⟩
       case measure=>simp[intOf];omega
      ·go_upto_region 13 with(first
        | ((with_reducible show wpList _ _ _ (⟨_,.buildSlice _ _ _,_,_,_,_⟩::_) _ _);refine wpList_buildSlice rfl 59 51 1 _ rfl #[.slice A3 m3 c3] j0 _ Tryz.underlying59 hj0 hz0 (by rw[hz1];decide) (by rw[hz1];decide) (by rw[hz1];exact build_il rfl) ?_)
        | ((with_reducible show wpList _ _ _ (⟨_,.call {callee:=.builtin .append,args:=_,argTypes:=_},_,_,_,_⟩::_) _ _);refine wpList_append_ol rfl _ _ rfl wb.heap.size j0 hj0 hz0 hz1 hz2 _ _ ls rfl (HOL.out.step ((Below.refl _ _).alloc (qL) _)) H0.out (by have:=BB.out.size;simp;omega) ⟨wc.heap.size,0,none⟩ 1 ⟨A3,m3,c3,ys⟩ rfl (ol_cell _ _ _) (HS3.out.step ((Below.refl _ _).alloc (qL) _)) (by omega) ?_;intro v' w5 hO hB5))
       have BB5:=qD ((BB.out.alloc BB.out.size _).trans hB5)
       have HO5:=qD hO
       clear hO hB5 BB HOL HS3
       go_wp2_with fail
       go_roundw
       case rel=>exact⟨i+1,_,_,hli,by go_num,rfl,BB5.out,HO5.out,next_at (S:=fun o=>(ofS o.p p).1) HLL.out HQ.out HAL.out HN4.out,HBZ.out⟩
       case measure=>simp[intOf];omega
    ·obtain rfl:i=x.kn:=by omega
     obtain⟨A9,c9,rfl⟩:=hol.cap
     have HLL:=qD hol.ln
     have hbe:=HBE.out
     rw[List.take_of_length_le (by have:=HN.out;omega)] at hbe
     have HB9:=qD hbe
     have HRS:Hid (∀b',b'=(b&&decide ((partsP p).length=1))→ForOk (forR x.kind true x.ks p) (p.sz+1) w (.returned (.tuple #[.slice A9 x.kn c9,.bool b'])) wr):=qD fun b' hb'=>by
      rw[HR.out]
      refine⟨_,_,_,ls,?_,HOL.out.bl (by unfold reach;omega),nfs_of (S:=fun o=>(ofS o.p p).1) (by rw[HLL.out,HN.out]) HAL.out (by omega),BE.out.step' BB.out⟩
      rw[hb',HB9.out]
     clear hol hbe HBE HAL hli HR HB9 HLL
     cases b
     ·go_wp2_with fail
      go_ret2
      exact HRS.out _ rfl
     ·by_cases h1:(partsP p).length=1
      ·have hp1:((pn:Int)==1)=true:=by have:=HPL.out;simp;omega
       have HD:Hid (true=(true&&decide ((partsP p).length=1))):=by rw[Hid,decide_eq_true h1];rfl
       clear h1
       go_wp2_with fail
       go_ret2
       exact HRS.out _ HD.out
      ·have hp1:((pn:Int)==1)=false:=by have:=HPL.out;simp;omega
       have HD:Hid (false=(true&&decide ((partsP p).length=1))):=by rw[Hid,decide_eq_false h1];rfl
       clear h1
       go_wp2_with fail
       go_ret2
       exact HRS.out _ HD.out
  ·have HR:Hid (forR x.kind false x.ks p=(x.ks.map fun o=>forP o.p (partsP p),(partsP p).all fun k=>x.ks.any fun o=>(ofS o.p k).2)):=by rw[Hid,HKD.out];exact forR_plain x.ks p
   go_upto_region 19 with fail
   go_loopw [8,15] (fun v8 v15 wr=>∃(i:Nat) (ls:List IL),i≤x.kn∧v15=.int .i64 i∧Below wb.heap.size wb wr∧OL wr wb.heap.size v8 i ls∧(∀(j:Nat) (o:Od) (h:IL),x.ks[j]?=some o→ls[j]?=some h→NfL (forP o.p (partsP p)) (p.sz+1) h)) (fun _ v15 _=>x.kn-(intOf v15).toNat)
   case atStart=>exact⟨0,[],Nat.zero_le _,rfl,Below.refl _ _,OL.nil _ _,fun j o h _ hj=>by simp at hj⟩
   case round=>
    obtain⟨i,ls,hi,rfl,hbb,hol,hal⟩:=hrel
    have BB:=qD hbb
    have HOL:=qD hol
    have HAL:=qD hal
    have d2:=(ix_cells (B3.out.step hbb)).d2
    clear hbb hal
    by_cases hli:i<x.kn
    ·obtain⟨A8,c8,rfl⟩:=hol.cap
     clear hol
     obtain⟨os,hos⟩:=HK.out
     obtain⟨kb,off,o,hA,hkb,ho,e0,e1⟩:=hos.sr.at2 hli
     obtain⟨q,hq⟩:∃q,x.ks[i]?=some q:=⟨_,List.getElem?_eq_getElem (by have:=HN.out;omega)⟩
     have HST:=qD (hos.el i o q ho hq).st
     have HQ:=qD hq
     have i0:(0:Int)≤(i:Int):=by omega
     have i1:(i:Int)<(x.kn:Int):=by omega
     have e0':=qD e0
     have HA:=qD hA
     have HKB:=qD hkb
     clear hos ho hq e0 e1 hA hkb
     go_upto_region 21 with fail
     clear d2
     go_upto_region 22 with fail
     refine(rall_any wr).mono ?_
     rintro e w3 ⟨A2,m2,c2,us,nf2,rfl,hy3,hn3,hm3,hs3,hb3⟩
     have HN4:=qD (nfl_of hy3 hn3 hm3 hs3)
     have HS2:=qD hs3
     replace HOL:=qD (HOL.out.step hb3)
     replace BB:=qD (BB.out.step' hb3)
     clear hy3 hn3 hm3 hs3 hb3
     go_upto_region 23 with fail
     go_loopw [16,17] (fun v16 v17 w6=>∃(j:Nat) (h:IL),j≤pn∧v17=.int .i64 j∧v16=.slice h.A h.n h.c∧Below wb.heap.size wb w6∧OL w6 wb.heap.size (.slice A8 i c8) i ls∧SI w6 h.A h.n h.c h.ys∧NfL (forP q.p ((partsP p).take j)) (1+PrT.sz.szL ((partsP p).take j)) h) (fun _ v17 _=>pn-(intOf v17).toNat)
     case atStart=>
      refine⟨0,⟨A2,m2,c2,us⟩,Nat.zero_le _,rfl,rfl,BB.out,HOL.out,HS2.out,?_⟩
      rw[List.take_zero,forP_nil]
      exact HN4.out
     case round=>
      clear BB HOL HS2 HN4
      obtain⟨j,h,hj,rfl,rfl,hbb,hol,hsh,hnh⟩:=hrel
      have BB:=qD hbb
      have HOL:=qD hol
      have HSH:=qD hsh
      have HNH:=qD hnh
      clear hbb hol hsh hnh
      by_cases hlt:j<pn
      ·obtain⟨b5,off5,k,hA,hkb,hx,hm,hrg⟩:=HPS.out.row hlt
       have RG:=qD hrg
       have HLB:=qD hkb
       have HMK:=qD hm
       have HTS:Hid ((partsP p).take (j+1)=(partsP p).take j++[k]):=by rw[Hid,List.take_add_one,hx];rfl
       have HSZ:Hid (PrT.sz.szL ((partsP p).take (j+1))=PrT.sz.szL ((partsP p).take j)+k.sz):=qD (szL_take _ _ hx)
       have HLE:Hid (PrT.sz.szL ((partsP p).take (j+1))≤p.sz):=qD (Nat.le_trans (szL_take_le _ _) partsP_sz)
       have j0':(0:Int)≤(j:Int):=by omega
       have j1':(j:Int)<(pn:Int):=by omega
       subst hA
       clear hrg hx hm hkb
       go_upto_region 25 with fail
       have BER:=qD (BE.out.step' BB.out)
       have KS:Hid (∀w',Below wr.heap.size wr w'→(fun w'=>(Instr.loadAt 41 (.pointer (some ⟨b5,off5+j*25,none⟩))).run Tryz.prog w'=.ok (aggPr k) w'∧w'.cell? ⟨w.heap.size,2,none⟩=some (.slice (some ⟨kb,off,none⟩) x.kn x.kc)∧w'.cell? ⟨kb,off+i*2,none⟩=some (.slice o.A o.n o.c)) w'):=qD fun w' hb=>⟨run_loadAt_mid _ b5 (off5+j*25) 41 (recPr k) _ (range_step RG.out (BB.out.step' hb) HLB.out) Tryz.underlying41 rfl (by kernel_rfl),by rw[←HA.out];exact(ix_cells (B3.out.step (BB.out.step' hb))).d2,(Below.cell (BE.out.step' (BB.out.step' hb)) (p:=⟨kb,off+i*2,none⟩) HKB.out).trans e0'.out⟩
       have B:=qD ((Below.refl wr.heap.size wr).drewN 1)
       go_cut [18,19] (fun v18 v19 wx=>∃(A3:Option Addr) (m3 c3:Nat) (ys:List PI) (nf:List (Cut×Cut)),v18=.slice A3 m3 c3∧v19=.bool (ofS q.p k).2∧ys.map ivP=nf.map ivOf∧IsNF (ofS q.p k).1 nf∧m3≤k.sz∧SI wx A3 m3 c3 ys∧Below wr.heap.size wr wx)
       case first=>
        refine wp_region_noPanic ?_
        refine wp_region_held_drew (S:=(fun w'=>(Instr.loadAt 41 (.pointer (some ⟨b5,off5+j*25,none⟩))).run Tryz.prog w'=.ok (aggPr k) w'∧w'.cell? ⟨w.heap.size,2,none⟩=some (.slice (some ⟨kb,off,none⟩) x.kn x.kc)∧w'.cell? ⟨kb,off+i*2,none⟩=some (.slice o.A o.n o.c))) (by kernel_rfl) ?_ (fun hHeld=>?_)
        ·(try dsimp only);exact KS.out _ B.out
        refine rT (v:=?_) 0 rfl ?_ ?_
        rotate_left
        ·intro w' hSw;(try dsimp only at hSw);obtain⟨_,hSw1,hSw2⟩:=hSw;go_simp;(try with_reducible rfl)
        try go_frame
        refine rT (v:=?_) 1 rfl ?_ ?_
        rotate_left
        ·intro w' hSw;(try dsimp only at hSw);obtain⟨_,hSw1,hSw2⟩:=hSw;go_simp;(try with_reducible rfl)
        try go_frame
        refine rT (v:=?_) 2 rfl ?_ ?_
        rotate_left
        ·intro w' hSw;(try dsimp only at hSw);obtain⟨_,hSw1,hSw2⟩:=hSw;go_simp;(try with_reducible rfl)
        try go_frame
        refine rT (v:=aggPr k) 3 rfl ?_ ?_
        (skip)
        ·intro w' hSw;exact exec_load (p:=.pointer (some ⟨b5,off5+j*25,none⟩)) rfl rfl hSw.1
        try go_frame
        refine rT (v:=?_) 4 rfl ?_ ?_
        rotate_left
        ·intro w' hSw;(try dsimp only at hSw);obtain⟨_,hSw1,hSw2⟩:=hSw;go_simp;(try with_reducible rfl)
        try go_frame
        refine rT (v:=?_) 5 rfl ?_ ?_
        rotate_left
        ·intro w' hSw;(try dsimp only at hSw);obtain⟨_,hSw1,hSw2⟩:=hSw;go_simp;(try with_reducible rfl)
        try go_frame
        refine rT (v:=?_) 6 rfl ?_ ?_
        rotate_left
        ·intro w' hSw;(try dsimp only at hSw);obtain⟨_,hSw1,hSw2⟩:=hSw;go_simp;(try with_reducible rfl)
        try go_frame
        refine rT (v:=?_) 7 rfl ?_ ?_
        rotate_left
        ·intro w' hSw;(try dsimp only at hSw);obtain⟨_,hSw1,hSw2⟩:=hSw;go_simp;(try with_reducible rfl)
        try go_frame
        refine rT (v:=?_) 8 rfl ?_ ?_
        rotate_left
        ·intro w' hSw;(try dsimp only at hSw);obtain⟨_,hSw1,hSw2⟩:=hSw;go_simp;(try with_reducible rfl)
        try go_frame
        refine rT (v:=?_) 9 rfl ?_ ?_
        rotate_left
        ·intro w' hSw;(try dsimp only at hSw);obtain⟨_,hSw1,hSw2⟩:=hSw;go_simp;(try with_reducible rfl)
        try go_frame
        refine rY 10 rfl fun K hK=>?_
        go_simp
        refine(HO.out k (.inr HMK.out) o.A o.n o.c q.p _ (BER.out.step' B.out) (HST.out.step (BER.out.step' B.out))).mono ?_
        rintro e3 w3 ⟨A3,m3,c3,ys,nf,rfl,hy,hnf,hmk,hsi,hb3⟩
        replace B:=qD (B.out.step' hb3)
        have HS3:=qD hsi
        have HY3:=qD hy
        have HN3:=qD hnf
        have HM3:=qD hmk
        clear hb3 hsi hy hnf hmk
        (try go_wp2_with fail)
        clear hHeld
        refine hK.out _ _ ?_ fun hHeld=>?_
        ·(try dsimp only);exact KS.out _ B.out
        clear hK K
        try go_frame
        refine rT (v:=?_) 11 rfl ?_ ?_
        rotate_left
        ·intro w' hSw;(try dsimp only at hSw);obtain⟨_,hSw1,hSw2⟩:=hSw;go_simp;(try with_reducible rfl)
        try go_frame
        refine rT (v:=?_) 12 rfl ?_ ?_
        rotate_left
        ·intro w' hSw;(try dsimp only at hSw);obtain⟨_,hSw1,hSw2⟩:=hSw;go_simp;(try with_reducible rfl)
        try go_frame
        refine rT (v:=?_) 13 rfl ?_ ?_
        rotate_left
        ·intro w' hSw;(try dsimp only at hSw);obtain⟨_,hSw1,hSw2⟩:=hSw;go_simp;(try with_reducible rfl)
        try go_frame
        refine rT (v:=?_) 14 rfl ?_ ?_
        rotate_left
        ·intro w' hSw;(try dsimp only at hSw);obtain⟨_,hSw1,hSw2⟩:=hSw;go_simp;(try with_reducible rfl)
        try go_frame
        refine rT (v:=?_) 15 rfl ?_ ?_
        rotate_left
        ·intro w' hSw;(try dsimp only at hSw);obtain⟨_,hSw1,hSw2⟩:=hSw;go_simp;(try with_reducible rfl)
        try go_frame
        refine rD ?_ _
        refine NoPanic.normal ?_
        clear hHeld
        all_goals
         go_wp2_with fail
         go_meet
         exact⟨A3,m3,c3,ys,nf,rfl,rfl,HY3.out,HN3.out,HM3.out,HS3.out,B.out⟩
       case rest=>
        clear KS B
        obtain⟨A3,m3,c3,ys,nf,rfl,rfl,hy3,hn3,hm3,hs3,hb3'⟩:=hcut
        have HS3:=qD hs3
        have HY3:=qD hy3
        have HN3:=qD hn3
        have HM3:=qD hm3
        have HLL:=qD HOL.out.ln
        replace HOL:=qD (HOL.out.step hb3')
        replace BB:=qD (BB.out.step' hb3')
        replace HSH:=qD (HSH.out.step hb3')
        have HME:Hid (Calls Tryz.prog 65 #[.slice h.A h.n h.c,.slice A3 m3 c3] wc (NormOk (fun a=>forP q.p ((partsP p).take j) a∧(ofS q.p k).1 a) (h.n+m3) wc)):=by
         obtain⟨⟨nf9,hy9,hnf9⟩,hle9⟩:=HNH.out
         have hl9:=HSH.out.sr.ln
         have h1:=HSZ.out
         have h2:=HLE.out
         have h3:=HZ.out
         have h4:=HM3.out
         refine qD (rmeetN_any h.ys ys h.A A3 h.n h.c m3 c3 wc HSH.out HS3.out hy9 HY3.out hnf9 HN3.out ?_)
         have:=prod_le (m:=h.n) (b:=m3) (s:=1048577) (by omega)
         omega
        clear hy3 hn3 hm3 hs3 hb3'
        go_wp2_with fail
        refine HME.out.mono ?_
        rintro e w7 ⟨A4,m4,c4,zs,nf4,rfl,hy,hnf,hmk,hsi,hb4⟩
        have HN5:Hid (NfL (forP q.p ((partsP p).take (j+1))) (1+PrT.sz.szL ((partsP p).take (j+1))) ⟨A4,m4,c4,zs⟩):=by
         refine qD ⟨⟨nf4,hy,?_⟩,?_⟩
         ·rw[HTS.out,forP_snoc];exact hnf
         ·have h1:=HSZ.out
          have h2:=HNH.out.le
          have h3:=HSH.out.sr.ln
          have h4:=HM3.out
          have h5:=hsi.sr.ln
          show zs.length≤_
          omega
        have HS4:=qD hsi
        replace HOL:=qD (HOL.out.step hb4)
        replace BB:=qD (BB.out.step' hb4)
        clear hy hnf hmk hsi hb4 HME HS3 HY3 HN3 HM3 HSH HNH
        go_wp2_with fail
        go_roundw
        case rel=>exact⟨j+1,⟨A4,m4,c4,zs⟩,hlt,by go_num,rfl,BB.out,HOL.out,HS4.out,HN5.out⟩
        case measure=>simp[intOf];omega
      ·obtain rfl:j=pn:=by omega
       have HNF:Hid (NfL (forP q.p (partsP p)) (p.sz+1) h):=by
        have h1:=HNH.out
        rw[List.take_of_length_le (by have:=HPL.out;omega)] at h1
        exact qD ⟨h1.nf,by have:=h1.le;have:=partsP_sz (p:=p);omega⟩
       have HLL:=qD HOL.out.ln
       clear hlt HNH
       go_upto_region 20 with(first
        | ((with_reducible show wpList _ _ _ (⟨_,.buildSlice _ _ _,_,_,_,_⟩::_) _ _);refine wpList_buildSlice rfl 59 51 1 _ rfl #[.slice h.A h.n h.c] j0 _ Tryz.underlying59 hj0 hz0 (by rw[hz1];decide) (by rw[hz1];decide) (by rw[hz1];exact build_il rfl) ?_)
        | ((with_reducible show wpList _ _ _ (⟨_,.call {callee:=.builtin .append,args:=_,argTypes:=_},_,_,_,_⟩::_) _ _);refine wpList_append_ol rfl _ _ rfl wb.heap.size j0 hj0 hz0 hz1 hz2 _ _ ls rfl (HOL.out.step ((Below.refl _ _).alloc (qL) _)) H0.out (by have:=BB.out.size;simp;omega) ⟨wr.heap.size,0,none⟩ 1 h rfl (ol_cell _ _ _) (HSH.out.step ((Below.refl _ _).alloc (qL) _)) (by omega) ?_;intro v' w5 hO hB5))
       have BB5:=qD ((BB.out.alloc BB.out.size _).trans hB5)
       have HO5:=qD hO
       clear hO hB5 BB HOL HSH
       go_wp2_with fail
       go_roundw
       case rel=>exact⟨i+1,_,hli,by go_num,BB5.out,HO5.out,next_at (S:=fun o=>forP o.p (partsP p)) HLL.out HQ.out HAL.out HNF.out⟩
       case measure=>simp[intOf];omega
    ·obtain rfl:i=x.kn:=by omega
     obtain⟨A9,c9,rfl⟩:=hol.cap
     have HLL:=qD hol.ln
     have HRS:Hid (∀(b':Bool) (w9:World),b'=((partsP p).all fun k=>x.ks.any fun o=>(ofS o.p k).2)→OL w9 wb.heap.size (.slice A9 x.kn c9) x.kn ls→Below wb.heap.size wb w9→ForOk (forR x.kind false x.ks p) (p.sz+1) w (.returned (.tuple #[.slice A9 x.kn c9,.bool b'])) w9):=qD fun b' w9 hb' ho hb9=>by
      rw[HR.out]
      refine⟨_,_,_,ls,?_,ho.bl (by unfold reach;omega),nfs_of (S:=fun o=>forP o.p (partsP p)) (by rw[HLL.out,HN.out]) HAL.out (qL),BE.out.step' hb9⟩
      rw[hb']
     clear hol hli HR HAL
     go_upto_region 29 with fail
     clear d2
     go_loopw [20] (fun v20 w6=>∃(j:Nat),j≤pn∧v20=.int .i64 j∧Below wb.heap.size wb w6∧OL w6 wb.heap.size (.slice A9 x.kn c9) x.kn ls∧((partsP p).take j).all (fun k=>x.ks.any fun o=>(ofS o.p k).2)=true) (fun v20 _=>pn-(intOf v20).toNat)
     case atStart=>exact⟨0,Nat.zero_le _,rfl,BB.out,HOL.out,rfl⟩
     case round=>
      clear BB HOL
      obtain⟨j,hj,rfl,hbb,hol,hae⟩:=hrel
      have BB:=qD hbb
      have HOL:=qD hol
      have HAE:=qD hae
      clear hbb hol hae
      by_cases hlt:j<pn
      ·obtain⟨b5,off5,k,hA,hkb,hx,hm,hrg⟩:=HPS.out.row hlt
       have RG:=qD hrg
       have HLB:=qD hkb
       have HMK:=qD hm
       have HX:=qD hx
       have j0':(0:Int)≤(j:Int):=by omega
       have j1':(j:Int)<(pn:Int):=by omega
       subst hA
       clear hrg hx hm hkb
       go_upto_region 33 with fail
       go_loopw [21,22] (fun v21 v22 w6=>∃(i:Nat) (c:Bool),i≤x.kn∧v22=.int .i64 i∧v21=.bool c∧Below wb.heap.size wb w6∧OL w6 wb.heap.size (.slice A9 x.kn c9) x.kn ls∧c=(x.ks.take i).any fun o=>(ofS o.p k).2) (fun _ v22 _=>x.kn-(intOf v22).toNat)
       case atStart=>exact⟨0,false,Nat.zero_le _,rfl,rfl,BB.out,HOL.out,rfl⟩
       case round=>
        clear BB HOL
        obtain⟨i,c,hi,rfl,rfl,hbb,hol,hce⟩:=hrel
        have BB:=qD hbb
        have HOL:=qD hol
        have HCE:=qD hce
        have d2:=(ix_cells (B3.out.step hbb)).d2
        clear hbb hol hce
        by_cases hli:i<x.kn
        ·skip
         obtain⟨os,hos⟩:=HK.out
         obtain⟨kb,off,o,hA,hkb,ho,e0,e1⟩:=hos.sr.at2 hli
         obtain⟨q,hq⟩:∃q,x.ks[i]?=some q:=⟨_,List.getElem?_eq_getElem (by have:=HN.out;omega)⟩
         have HST:=qD (hos.el i o q ho hq).st
         have HQ:=qD hq
         have i0:(0:Int)≤(i:Int):=by omega
         have i1:(i:Int)<(x.kn:Int):=by omega
         have e0':=qD e0
         have HA:=qD hA
         have HKB:=qD hkb
         clear hos ho hq e0 e1 hA hkb
         go_upto_region 35 with fail
         clear d2
         have BER:=qD (BE.out.step' BB.out)
         have KS:Hid (∀w',Below wr.heap.size wr w'→(fun w'=>(Instr.loadAt 41 (.pointer (some ⟨b5,off5+j*25,none⟩))).run Tryz.prog w'=.ok (aggPr k) w'∧w'.cell? ⟨w.heap.size,2,none⟩=some (.slice (some ⟨kb,off,none⟩) x.kn x.kc)∧w'.cell? ⟨kb,off+i*2,none⟩=some (.slice o.A o.n o.c)) w'):=qD fun w' hb=>⟨run_loadAt_mid _ b5 (off5+j*25) 41 (recPr k) _ (range_step RG.out (BB.out.step' hb) HLB.out) Tryz.underlying41 rfl (by kernel_rfl),by rw[←HA.out];exact(ix_cells (B3.out.step (BB.out.step' hb))).d2,(Below.cell (BE.out.step' (BB.out.step' hb)) (p:=⟨kb,off+i*2,none⟩) HKB.out).trans e0'.out⟩
         have B:=qD ((Below.refl wr.heap.size wr).drewN 1)
         go_cut [23,24] (fun v23 v24 wx=>∃(A3:Option Addr) (m3 c3:Nat) (ys:List PI) (nf:List (Cut×Cut)),v23=.slice A3 m3 c3∧v24=.bool (ofS q.p k).2∧ys.map ivP=nf.map ivOf∧IsNF (ofS q.p k).1 nf∧m3≤k.sz∧SI wx A3 m3 c3 ys∧Below wr.heap.size wr wx)
         case first=>
          refine wp_region_noPanic ?_
          refine wp_region_held_drew (S:=(fun w'=>(Instr.loadAt 41 (.pointer (some ⟨b5,off5+j*25,none⟩))).run Tryz.prog w'=.ok (aggPr k) w'∧w'.cell? ⟨w.heap.size,2,none⟩=some (.slice (some ⟨kb,off,none⟩) x.kn x.kc)∧w'.cell? ⟨kb,off+i*2,none⟩=some (.slice o.A o.n o.c))) (by kernel_rfl) ?_ (fun hHeld=>?_)
          ·(try dsimp only);exact KS.out _ B.out
          refine rT (v:=?_) 0 rfl ?_ ?_
          rotate_left
          ·intro w' hSw;(try dsimp only at hSw);obtain⟨_,hSw1,hSw2⟩:=hSw;go_simp;(try with_reducible rfl)
          try go_frame
          refine rT (v:=?_) 1 rfl ?_ ?_
          rotate_left
          ·intro w' hSw;(try dsimp only at hSw);obtain⟨_,hSw1,hSw2⟩:=hSw;go_simp;(try with_reducible rfl)
          try go_frame
          refine rT (v:=?_) 2 rfl ?_ ?_
          rotate_left
          ·intro w' hSw;(try dsimp only at hSw);obtain⟨_,hSw1,hSw2⟩:=hSw;go_simp;(try with_reducible rfl)
          try go_frame
          refine rT (v:=aggPr k) 3 rfl ?_ ?_
          (skip)
          ·intro w' hSw;exact exec_load (p:=.pointer (some ⟨b5,off5+j*25,none⟩)) rfl rfl hSw.1
          try go_frame
          refine rT (v:=?_) 4 rfl ?_ ?_
          rotate_left
          ·intro w' hSw;(try dsimp only at hSw);obtain⟨_,hSw1,hSw2⟩:=hSw;go_simp;(try with_reducible rfl)
          try go_frame
          refine rT (v:=?_) 5 rfl ?_ ?_
          rotate_left
          ·intro w' hSw;(try dsimp only at hSw);obtain⟨_,hSw1,hSw2⟩:=hSw;go_simp;(try with_reducible rfl)
          try go_frame
          refine rT (v:=?_) 6 rfl ?_ ?_
          rotate_left
          ·intro w' hSw;(try dsimp only at hSw);obtain⟨_,hSw1,hSw2⟩:=hSw;go_simp;(try with_reducible rfl)
          try go_frame
          refine rT (v:=?_) 7 rfl ?_ ?_
          rotate_left
          ·intro w' hSw;(try dsimp only at hSw);obtain⟨_,hSw1,hSw2⟩:=hSw;go_simp;(try with_reducible rfl)
          try go_frame
          refine rT (v:=?_) 8 rfl ?_ ?_
          rotate_left
          ·intro w' hSw;(try dsimp only at hSw);obtain⟨_,hSw1,hSw2⟩:=hSw;go_simp;(try with_reducible rfl)
          try go_frame
          refine rT (v:=?_) 9 rfl ?_ ?_
          rotate_left
          ·intro w' hSw;(try dsimp only at hSw);obtain⟨_,hSw1,hSw2⟩:=hSw;go_simp;(try with_reducible rfl)
          try go_frame
          refine rY 10 rfl fun K hK=>?_
          go_simp
          refine(HO.out k (.inr HMK.out) o.A o.n o.c q.p _ (BER.out.step' B.out) (HST.out.step (BER.out.step' B.out))).mono ?_
          rintro e3 w3 ⟨A3,m3,c3,ys,nf,rfl,hy,hnf,hmk,hsi,hb3⟩
          replace B:=qD (B.out.step' hb3)
          have HS3:=qD hsi
          have HY3:=qD hy
          have HN3:=qD hnf
          have HM3:=qD hmk
          clear hb3 hsi hy hnf hmk
          (try go_wp2_with fail)
          clear hHeld
          refine hK.out _ _ ?_ fun hHeld=>?_
          ·(try dsimp only);exact KS.out _ B.out
          clear hK K
          try go_frame
          refine rT (v:=?_) 11 rfl ?_ ?_
          rotate_left
          ·intro w' hSw;(try dsimp only at hSw);obtain⟨_,hSw1,hSw2⟩:=hSw;go_simp;(try with_reducible rfl)
          try go_frame
          refine rT (v:=?_) 12 rfl ?_ ?_
          rotate_left
          ·intro w' hSw;(try dsimp only at hSw);obtain⟨_,hSw1,hSw2⟩:=hSw;go_simp;(try with_reducible rfl)
          try go_frame
          refine rT (v:=?_) 13 rfl ?_ ?_
          rotate_left
          ·intro w' hSw;(try dsimp only at hSw);obtain⟨_,hSw1,hSw2⟩:=hSw;go_simp;(try with_reducible rfl)
          try go_frame
          refine rT (v:=?_) 14 rfl ?_ ?_
          rotate_left
          ·intro w' hSw;(try dsimp only at hSw);obtain⟨_,hSw1,hSw2⟩:=hSw;go_simp;(try with_reducible rfl)
          try go_frame
          refine rT (v:=?_) 15 rfl ?_ ?_
          rotate_left
          ·intro w' hSw;(try dsimp only at hSw);obtain⟨_,hSw1,hSw2⟩:=hSw;go_simp;(try with_reducible rfl)
          try go_frame
          refine rD ?_ _
          refine NoPanic.normal ?_
          clear hHeld
          all_goals
           go_wp2_with fail
           go_meet
           exact⟨A3,m3,c3,ys,nf,rfl,rfl,HY3.out,HN3.out,HM3.out,HS3.out,B.out⟩
         case rest=>
          clear KS B
          obtain⟨A3,m3,c3,ys,nf,rfl,rfl,hy3,hn3,hm3,hs3,hb3'⟩:=hcut
          have HS3:=qD hs3
          have HY3:=qD hy3
          have HN3:=qD hn3
          have HM3:=qD hm3
          replace HOL:=qD (HOL.out.step hb3')
          replace BB:=qD (BB.out.step' hb3')
          obtain⟨z,hzz⟩:∃z,z=(ofS q.p k).2:=⟨_,rfl⟩
          rw[←hzz]
          have HBZ:Hid ((c||z)=((x.ks.take (i+1)).any fun o=>(ofS o.p k).2)):=by rw[Hid,any_snoc _ HQ.out,←HCE.out,←hzz]
          clear hy3 hn3 hm3 hs3 hb3' HY3 HN3 HM3 hzz HCE
          cases c
          ·go_wp2_with fail
           go_roundw
           case rel=>exact⟨i+1,_,hli,by go_num,rfl,BB.out,HOL.out,HBZ.out⟩
           case measure=>simp[intOf];omega
          ·go_wp2_with fail
           go_roundw
           case rel=>exact⟨i+1,_,hli,by go_num,rfl,BB.out,HOL.out,HBZ.out⟩
           case measure=>simp[intOf];omega
        ·obtain rfl:i=x.kn:=by omega
         have hce:=HCE.out
         rw[List.take_of_length_le (by have:=HN.out;omega)] at hce
         have HC9:=qD hce
         clear hce HCE hli
         cases c
         ·have HF:Hid (false=((partsP p).all fun k=>x.ks.any fun o=>(ofS o.p k).2)):=by
           rw[Hid,eq_comm,List.all_eq_false]
           exact⟨k,HMK.out,by rw[←HC9.out];decide⟩
          go_wp2_with fail
          go_ret2
          exact HRS.out _ _ HF.out HOL.out BB.out
         ·go_wp2_with fail
          go_roundw
          case rel=>exact⟨j+1,hlt,by go_num,BB.out,HOL.out,by rw[all_snoc _ HX.out,HAE.out,←HC9.out];rfl⟩
          case measure=>simp[intOf];omega
      ·obtain rfl:j=pn:=by omega
       have HF:Hid (true=((partsP p).all fun k=>x.ks.any fun o=>(ofS o.p k).2)):=by
        have h1:=HAE.out
        rw[List.take_of_length_le (by have:=HPL.out;omega)] at h1
        exact qD h1.symm
       clear hlt HAE
       go_wp2_with fail
       go_ret2
       exact HRS.out _ _ HF.out HOL.out BB.out
theorem ix_full{w:World}{g:Nat}{t:TypeId}{x:IxT}(h:Blk w g t (arrIx x)):w.rangeAt g 0 (recIx x):=
 range_blk h _ _ fun j v hj=>by
  rw[Nat.zero_add]
  show(recIx x).toArray[j]?=some v
  rw[List.getElem?_toArray]
  exact hj
theorem boundsFor_walk(x:IxT)(mu:Bool)(p:PrT)(w:World)(hT:Tabs w)(hN:NmT w)(hx:WIx w x)(hp:WP w p)(hz:p.sz≤1048576):
 Calls Tryz.prog 5 #[aggIx x,.bool mu,aggPr p] w fun e w'=>e=.returned (.bool true)∧Below w.heap.size w w':=by
 have HT:=qD hT
 have HN:=qD hN
 have HP:=qD hp
 have HX:=qD hx
 have HZ:=qD hz
 clear hT hN hp hx hz
 have HAW:Hid (∀wr,Below w.heap.size w wr→Calls Tryz.prog 13 #[] wr fun e w'=>e=.returned (.bool true)∧Below wr.heap.size wr w'):=qD fun wr hb=>awake25_any wr (HT.out.step hb) (HN.out.step hb)
 have B0:Hid (Blk ((w.alloc (.cells (arrIx x) 57)).alloc (.cells (arrPr p) 41)) w.heap.size 57 (arrIx x)):=(Blk.new_at rfl).alloc _
 have B1:Hid (Blk ((w.alloc (.cells (arrIx x) 57)).alloc (.cells (arrPr p) 41)) (w.heap.size+1) 41 (arrPr p)):=Blk.new_at (by simp)
 have BE:Hid (Below w.heap.size w ((w.alloc (.cells (arrIx x) 57)).alloc (.cells (arrPr p) 41))):=((Below.refl _ _).alloc (qL) _).alloc (by simp) _
 go_enter Tryz.func5,Tryz.ntmps5
 go_upto_region 1 with fail
 change Code.wp _ _ _ _ ((w.alloc (.cells (arrIx x) 57)).alloc (.cells (arrPr p) 41))
 generalize (w.alloc (.cells (arrIx x) 57)).alloc (.cells (arrPr p) 41)=wa at*
 have RF:=qD (pr_full B1.out)
 go_wp2_with ((with_reducible show wpList _ _ _ (⟨_,.load 41 _,_,_,_,_⟩::_) _ _);refine wpList_mid_w rfl 41 _ rfl (w.heap.size+1) 0 rfl _ _ RF.out Tryz.underlying41 rfl (by kernel_rfl) ?_)
 refine(rpred_any p wa (HP.out.step BE.out) (HT.out.step BE.out)).mono ?_
 rintro e w1 ⟨er,rfl,hv,hb⟩
 have C0:=qD (B0.out.step hb)
 have C1:=qD (B1.out.step hb)
 have CE:=qD (BE.out.step' hb)
 have HV:=qD hv
 clear hb hv B0 B1 BE RF
 by_cases he:er=0
 rotate_left
 ·have heb:(er != 0)=true:=by simpa using he
  clear he HV
  go_wp2_with fail
  refine(HAW.out _ CE.out).mono ?_
  rintro e w2 ⟨rfl,hb⟩
  have DE:=qD (CE.out.step' hb)
  clear hb
  go_wp2_with fail
  go_ret
  exact⟨rfl,DE.out⟩
 subst he
 have VP:=qD (HV.out rfl)
 have RX:=qD (ix_full C0.out)
 clear HV
 go_wp2_with ((with_reducible show wpList _ _ _ (⟨_,.load 57 _,_,_,_,_⟩::_) _ _);refine wpList_mid_w rfl 57 _ rfl w.heap.size 0 rfl _ _ RX.out Tryz.underlying57 rfl (by kernel_rfl) ?_)
 refine(rindex_any x w1 (HT.out.step CE.out) (HX.out.step CE.out)).mono ?_
 rintro e w2 ⟨n2,rfl,hb⟩
 have D0:=qD (C0.out.step hb)
 have D1:=qD (C1.out.step hb)
 have DE:=qD (CE.out.step' hb)
 clear hb C0 C1 CE RX
 by_cases he:n2=0
 rotate_left
 ·have heb:(n2 != 0)=true:=by simpa using he
  clear he
  go_wp2_with fail
  refine(HAW.out _ DE.out).mono ?_
  rintro e w3 ⟨rfl,hb⟩
  have EE:=qD (DE.out.step' hb)
  clear hb
  go_wp2_with fail
  go_ret
  exact⟨rfl,EE.out⟩
 subst he
 have RX:=qD (ix_full D0.out)
 have RF:=qD (pr_full D1.out)
 have HO1:=qD (for_any x mu p w2 (HT.out.step DE.out) (HX.out.step DE.out) (HP.out.step DE.out) VP.out.1 (by have:=HZ.out;omega))
 go_upto_region 4 with(first
  | ((with_reducible show wpList _ _ _ (⟨_,.load 57 _,_,_,_,_⟩::_) _ _);refine wpList_mid_w rfl 57 _ rfl w.heap.size 0 rfl _ _ RX.out Tryz.underlying57 rfl (by kernel_rfl) ?_)
  | ((with_reducible show wpList _ _ _ (⟨_,.load 41 _,_,_,_,_⟩::_) _ _);refine wpList_mid_w rfl 41 _ rfl (w.heap.size+1) 0 rfl _ _ RF.out Tryz.underlying41 rfl (by kernel_rfl) ?_)
  | (go_at_call 18;refine HO1.out.mono ?_;rintro e w3 ⟨A3,m3,c3,ls,rfl,hbl,hnf,hb3⟩))
 have E0:=qD (D0.out.step hb3)
 have E1:=qD (D1.out.step hb3)
 have EE:=qD (DE.out.step' hb3)
 have HBL:=qD hbl
 have HNF:=qD hnf
 clear hbl hnf hb3 RF RX HO1 D0 D1 DE
 have RX:=qD (ix_full E0.out)
 have RF:=qD (pr_full E1.out)
 have HO2:=qD (rfor_any x mu p w3 (HT.out.step EE.out) (HX.out.step EE.out) (HP.out.step EE.out) VP.out.1 HZ.out)
 go_upto_region 5 with(first
  | ((with_reducible show wpList _ _ _ (⟨_,.load 57 _,_,_,_,_⟩::_) _ _);refine wpList_mid_w rfl 57 _ rfl w.heap.size 0 rfl _ _ RX.out Tryz.underlying57 rfl (by kernel_rfl) ?_)
  | ((with_reducible show wpList _ _ _ (⟨_,.load 41 _,_,_,_,_⟩::_) _ _);refine wpList_mid_w rfl 41 _ rfl (w.heap.size+1) 0 rfl _ _ RF.out Tryz.underlying41 rfl (by kernel_rfl) ?_)
  | (go_at_call 19;refine HO2.out.mono ?_;rintro e w4 ⟨A4,m4,c4,ms,rfl,hbm,hnm,hb4⟩))
 have FE:=qD (EE.out.step' hb4)
 have HSC:=qD (sameBs25_any ls ms A3 A4 m3 m4 c3 c4 w4 (HBL.out.step hb4) hbm HNF.out hnm)
 obtain⟨z,hzz⟩:∃z,z=(forR x.kind mu x.ks p).2:=⟨_,rfl⟩
 rw[←hzz]
 clear hbm hnm hb4 RF RX HO2 E0 E1 EE HBL HNF hzz
 cases z
 all_goals
  go_wp2_with fail
  refine HSC.out.mono ?_
  rintro e w5 ⟨rfl,hb⟩
  have GE:=qD (FE.out.step' hb)
  clear hb
  go_wp2_with fail
  refine(HAW.out _ GE.out).mono ?_
  rintro e w6 ⟨rfl,hb⟩
  have IE:=qD (GE.out.step' hb)
  clear hb
  go_wp2_with fail
  go_ret
  exact⟨rfl,IE.out⟩
open Go.ChangeShapes Go.WideShapes Go.ChangeAt Go.Joins Go.Deep
section
variable {H:Type} {enc:TypeId×Value→H} {W:World} {base:Nat} {spare:Nat→Bool} {held:Bool}
end
theorem bytes_order:Tryz.prog.bytesOf 73=32:=by kernel_rfl
theorem cells_order:Tryz.prog.cellsOf 73=2:=by kernel_rfl
theorem cells_bool:Tryz.prog.cellsOf 4=1:=by kernel_rfl
section
variable {H:Type} {enc:TypeId×Value→H} {W:World} {base:Nat} {spare:Nat→Bool} {held:Bool}
theorem read_orders(n:Nat){v:Value}{y:DataW H×List MemPlace}(h:DataW.trod enc Tryz.prog W base spare held n 22 [v]=some y)(hw:Light 22 y.1):
 ∃(A:Option Addr) (n c:Nat) (ks:List Od),v=.slice A n c∧KS W A n c ks:=by
 rcases DataW.trod_slice Tryz.underlying22 h with⟨hcs,_⟩|⟨a,len,cap,elems,rest,n',rfl,hcs,rfl,_,hlc,hcm,hel,hat,_,_⟩
 ·simp at hcs
  exact⟨none,0,0,[],hcs,KS.nil⟩
 ·simp at hcs
  subst hcs
  simp only[Light,DataW.weights,Tryz.underlying22,List.mem_cons,List.mem_append,bytes_order] at hw
  have hsz:len*32≤reach:=by
   have:=hw _ (.inl rfl)
   simp only[List.length_map,hel] at this
   have h2:len*32≤(len+rest.length)*32:=Nat.mul_le_mul_right _ (by omega)
   have:=le_reach
   omega
  have wl:=light_all (l:=elems.map (·.1)) (fun z hz=>hw z (.inr (.inl hz)))
  rcases Nat.eq_zero_or_pos len with h0|hp
  ·subst h0
   exact⟨some a,0,cap,[],rfl,KS.nil⟩
  have step:∀i,i<len→∃(o:OC) (q:Od),W.cells? base (a.add (i*2)) 2=some [.slice o.A o.n o.c,.bool o.d]∧OR W o q:=by
   intro i hi
   have h1:=hat i hi
   rw[cells_order,List.getElem?_eq_getElem (by omega)] at h1
   obtain⟨cs',hcs',ht'⟩:=Option.bind_eq_some_iff.1 h1
   have hwi:=wl _ (List.mem_map_of_mem (List.getElem_mem (l:=elems) (n:=i) (by omega)))
   generalize elems[i]=q at*
   obtain⟨ys,n'',rfl,rfl,hcl,hyl,hf⟩:=DataW.trod_struct Tryz.underlying73 ht'
   rw[cells_order] at hcl
   obtain⟨v0,v1,rfl⟩:=two hcl
   obtain⟨y0,y1,rfl⟩:=two hyl
   have f0:DataW.trod enc Tryz.prog W base spare held n'' 28 [v0]=some y0:=by simpa[cells_texts] using hf 0 _ rfl
   have f1:DataW.trod enc Tryz.prog W base spare held n'' 4 [v1]=some y1:=by simpa[cells_texts,cells_bool] using hf 1 _ rfl
   simp only[Light,DataW.weights,Tryz.underlying73,List.map,DataW.weightsEach,List.mem_append] at hwi
   obtain⟨A,m,c,xs,rfl,hx⟩:=read_texts n'' f0 (fun z hz=>hwi z (.inl hz))
   obtain⟨d,e1,rfl⟩:=DataW.trod_bool Tryz.underlying4 f1
   simp only[List.cons.injEq,and_true] at e1
   subst e1
   exact⟨⟨A,m,c,d⟩,⟨xs,d⟩,hcs',rfl,hx⟩
  obtain⟨o0,q0,h0,_⟩:=step 0 hp
  obtain⟨b,off,ha,_⟩:=cells_at h0 (by omega)
  have ha':a=⟨b,off,none⟩:=by simpa[Addr.add] using ha
  subst ha'
  obtain⟨f,hf⟩:=choose_fn (p:=fun i (z:OC×Od)=>W.cell? ⟨b,off+i*2,none⟩=some (.slice z.1.A z.1.n z.1.c)∧W.cell? ⟨b,off+i*2+1,none⟩=some (.bool z.1.d)∧OR W z.1 z.2) (o0,q0) len (fun i hi=>by
   obtain⟨o,q,hcs',ho⟩:=step i hi
   rw[addr_add] at hcs'
   obtain⟨b',off',ha',hc⟩:=cells_at hcs' (by omega)
   injection ha' with e1 e2
   subst e1 e2
   exact⟨(o,q),hc 0 (by omega),hc 1 (by omega),ho⟩)
  refine⟨_,len,cap,(List.range len).map fun i=>(f i).2,rfl,(List.range len).map (fun i=>(f i).1),⟨by simp,hlc,fun _=>⟨b,off,rfl,World.block_lt_of_cell? W _ (hf 0 hp).1,fun i x hi j u hj=>?_⟩⟩,hsz,by simp,fun i o q hi hq=>?_⟩
  ·have hlt:i<len:=by have:=(List.getElem?_eq_some_iff.1 hi).1;simpa using this
   rw[List.getElem?_map,List.getElem?_range hlt] at hi
   simp only[Option.map_some,Option.some.injEq] at hi
   subst hi
   have hj2:j<2:=by have:=(List.getElem?_eq_some_iff.1 hj).1;simpa[recO] using this
   rcases(show j=0∨j=1 by omega) with rfl|rfl
   ·simp[recO] at hj
    subst hj
    rw[Nat.add_zero]
    exact(hf i hlt).1
   ·simp[recO] at hj
    subst hj
    exact(hf i hlt).2.1
  ·have hlt:i<len:=by have:=(List.getElem?_eq_some_iff.1 hi).1;simpa using this
   rw[List.getElem?_map,List.getElem?_range hlt] at hi hq
   simp only[Option.map_some,Option.some.injEq] at hi hq
   subst hi hq
   exact(hf i hlt).2.2
theorem cells_orders:Tryz.prog.cellsOf 22=1:=by kernel_rfl
end
section
variable {H:Type} {enc:TypeId×Value→H} {W:World} {base:Nat} {spare:Nat→Bool} {held:Bool}
end
section
variable {H:Type} {enc:TypeId×Value→H} {W:World} {base:Nat} {spare:Nat→Bool} {held:Bool}
end
section
variable {H:Type} {enc:TypeId×Value→H} {W:World} {base:Nat} {spare:Nat→Bool} {held:Bool}
theorem open_predB{r:Reach}{b0:Nat}{v:Value}{d:DataW H}{p:List MemPlace}(hv:Value.okWide Tryz.prog W r b0 41 v)(h:DataW.Trod enc Tryz.prog W base spare held 41 v d p)(hw:Fit 41 d):∃q:PrT,v=aggPr q∧WP W q∧NumsP q∧q.sz≤1048576:=by
 obtain⟨cs,rfl,hsz⟩:=okWide_struct Tryz.underlying41 hv
 obtain⟨fuel,hf⟩:=h
 obtain⟨q,hc,⟨hx,hn⟩,hz⟩:=read_predB fuel _ _ hf hw
 refine⟨q,?_,hx,hn,Nat.le_trans hz hw.2⟩
 obtain⟨l⟩:=cs
 simp only[Value.cells] at hc
 rw[show l=recPr q from hc]
 rfl
end
theorem cells_index:Tryz.prog.cellsOf 57=31:=by kernel_rfl
theorem l31{α:Type}{l:List α}(h:l.length=31):∃a0 a1 a2 a3 a4 a5 l',l=a0::a1::a2::a3::a4::a5::l'∧l'.length=25:=by
 match l,h with
 | a0::a1::a2::a3::a4::a5::l',h=>exact⟨_,_,_,_,_,_,l',rfl,by simpa using h⟩
section
variable {H:Type} {enc:TypeId×Value→H} {W:World} {base:Nat} {spare:Nat→Bool} {held:Bool}
theorem read_index(fuel:Nat)(cs:List Value)(y:DataW H×List MemPlace)(h:DataW.trod enc Tryz.prog W base spare held fuel 57 cs=some y)(hw:Fit 57 y.1):∃x:IxT,cs=recIx x∧WIx W x∧NumsP x.wh:=by
 obtain⟨ys,n,rfl,rfl,hcl,hyl,hf⟩:=DataW.trod_struct Tryz.underlying57 h
 rw[cells_index] at hcl
 obtain⟨v0,v1,v2,v3,v4,v5,l,rfl,hl25⟩:=l31 hcl
 obtain⟨y0,y1,y2,y3,y4,y5,y6,rfl⟩:=seven_ hyl
 have f0:DataW.trod enc Tryz.prog W base spare held n 9 [v0]=some y0:=by simpa[cells_string] using hf 0 _ rfl
 have f1:DataW.trod enc Tryz.prog W base spare held n 3 [v1]=some y1:=by simpa[cells_string,cells_int] using hf 1 _ rfl
 have f2:DataW.trod enc Tryz.prog W base spare held n 22 [v2]=some y2:=by simpa[cells_string,cells_int,cells_orders] using hf 2 _ rfl
 have f3:DataW.trod enc Tryz.prog W base spare held n 4 [v3]=some y3:=by simpa[cells_string,cells_int,cells_orders,cells_bool] using hf 3 _ rfl
 have f4:DataW.trod enc Tryz.prog W base spare held n 4 [v4]=some y4:=by simpa[cells_string,cells_int,cells_orders,cells_bool] using hf 4 _ rfl
 have f5:DataW.trod enc Tryz.prog W base spare held n 4 [v5]=some y5:=by simpa[cells_string,cells_int,cells_orders,cells_bool] using hf 5 _ rfl
 have f6:DataW.trod enc Tryz.prog W base spare held n 41 l=some y6:=by
  have:=hf 6 _ rfl
  simp[cells_pred] at this
  rwa [List.take_of_length_le (by omega)] at this
 obtain⟨hl,hk⟩:=hw
 simp only[Light,DataW.weights,Tryz.underlying57,List.map,DataW.weightsEach,List.mem_append] at hl
 simp only[Rows.uptoBulk,List.map,Rows.uptoBulkAll] at hk
 obtain⟨s,e0,e0',_⟩:=DataW.trod_string Tryz.underlying9 f0
 obtain⟨k,e1,rfl,_⟩:=DataW.trod_int Tryz.underlying3 f1
 obtain⟨A,kn,kc,ks,rfl,hks⟩:=read_orders n f2 (fun z hz=>hl z (.inr (.inr (.inl hz))))
 obtain⟨b3,e3,rfl⟩:=DataW.trod_bool Tryz.underlying4 f3
 obtain⟨b4,e4,rfl⟩:=DataW.trod_bool Tryz.underlying4 f4
 obtain⟨b5,e5,rfl⟩:=DataW.trod_bool Tryz.underlying4 f5
 obtain⟨p,rfl,hp,hnp⟩:=read_pred n _ _ f6 ⟨fun z hz=>hl z (.inr (.inr (.inr (.inr (.inr (.inr (.inl hz))))))),by omega⟩
 have hsz:s.size≤reach:=Nat.le_trans (hl s.size (.inl (by rw[e0'];simp[DataW.weights]))) le_reach
 simp only[List.cons.injEq,and_true] at e0 e1 e3 e4 e5
 subst e0 e1 e3 e4 e5
 exact⟨⟨s,k,A,kn,kc,ks,b3,b4,b5,p⟩,rfl,⟨hsz,hks,hp⟩,hnp⟩
theorem open_index{r:Reach}{b0:Nat}{v:Value}{d:DataW H}{p:List MemPlace}(hv:Value.okWide Tryz.prog W r b0 57 v)(h:DataW.Trod enc Tryz.prog W base spare held 57 v d p)(hw:Fit 57 d):∃q:IxT,v=aggIx q∧WIx W q∧NumsP q.wh:=by
 obtain⟨cs,rfl,hsz⟩:=okWide_struct Tryz.underlying57 hv
 obtain⟨fuel,hf⟩:=h
 obtain⟨q,hc,hx,hn⟩:=read_index fuel _ _ hf hw
 refine⟨q,?_,hx,hn⟩
 obtain⟨l⟩:=cs
 simp only[Value.cells] at hc
 rw[show l=recIx q from hc]
theorem open_bool1{r:Reach}{b0:Nat}{v:Value}{d:DataW H}{p:List MemPlace}(hv:Value.okWide Tryz.prog W r b0 4 v)(h:DataW.Trod enc Tryz.prog W base spare held 4 v d p):∃b:Bool,v=.bool b:=by
 obtain⟨b,rfl,_⟩:=Go.RowKit.open_bool Tryz.underlying4 hv h
 exact⟨b,rfl⟩
end
end Go.Proofs.YtfkdihlbaghajaaGreatDoor
