/- Parts of the proof, joined: ShVals, EncNum, EncApp. -/
import Derived.Test.YtfkapannahcjiaaGreatDoorRa1
import Derived.Test.YtfkapannahcjiaaGreatDoorRa3
import Derived.Test.YtfkapannahcjiaaGreatDoorRa4
import Derived.Test.YtfkapannahcjiaaGreatDoorRa12
import Derived.Test.YtfkapannahcjiaaGreatDoorRa2
import Derived.Lib.AppendStr
set_option maxRecDepth 100000
set_option maxHeartbeats 16000000
set_option linter.unusedSimpArgs false
namespace Go.Proofs.YtfkapannahcjiaaGreatDoor
open Go.RowKit
theorem alloc_le{a:Nat}{w:World}(h:a≤w.heap.size)(o:Obj):a≤(w.alloc o).heap.size:=by simp;omega
def valsAt(x:Val):List Od→Option (List Val)
 | []=>some []
 | q::r=>match keyAt x q.p with
  | none=>none
  | some y=>(valsAt x r).map (y::·)
theorem valsAt_at{x:Val}{ks:List Od}{i:Nat}{q:Od}(h:ks[i]?=some q):valsAt x (ks.drop i)=match keyAt x q.p with
 | none=>none
 | some y=>(valsAt x (ks.drop (i+1))).map (y::·):=by rw[drop_of h,valsAt]
noncomputable def valsR(ks:List Od)(x:Val):Option (List Val):=if x.k=5∧validV x=true then valsAt x ks else none
theorem valsR_yes{ks:List Od}{x:Val}(h:x.k=5)(h':validV x=true):valsR ks x=valsAt x ks:=if_pos ⟨h,h'⟩
theorem valsR_kind{ks:List Od}{x:Val}(h:x.k≠5):valsR ks x=none:=if_neg fun e=>h e.1
theorem valsR_bad{ks:List Od}{x:Val}(h:validV x=false):valsR ks x=none:=if_neg fun e=>by rw[h] at e;cases e.2
structure VsI(w:World)(v:Value)(ps:List PV)(wr:World):Prop where
 own:wr.ownsRow w.heap.size 29 5 v ps.length (flat recV ps)
 rv:∀p∈ps,RV (fun b=>v.ownBlock≠some b) wr p.1 p.2
 bel:Below w.heap.size w wr
theorem VsI.step{w wr w':World}{v:Value}{ps:List PV}(h:VsI w v ps wr)(hb:Below wr.heap.size wr w'):VsI w v ps w':=⟨own_step h.own hb,fun p hp=>(h.rv p hp).step hb,h.bel.step' hb⟩
theorem VsI.add{w wr w':World}{v v':Value}{ps:List PV}{p:PV}{m:Nat}(h:VsI w v ps wr)(hp:RV (fun b=>v.ownBlock≠some b) wr p.1 p.2)(hm:m=ps.length+1)(ho:w'.ownsRow w.heap.size 29 5 v' m (flat recV ps++recV p))(hg:wr.grownBy w' v.ownBlock)(hat:v'.ownBlock=v.ownBlock∨v'.ownBlock=some wr.heap.size):VsI w v' (ps++[p]) w':=by
 subst hm
 have key:∀b,v.ownBlock≠some b→b<wr.heap.size→v'.ownBlock≠some b∧w'.heap[b]?=wr.heap[b]?:=fun b hb hl=>by
  refine⟨?_,hg.block b hl (fun e=>hb e.symm)⟩
  rcases hat with e|e<;>rw[e]
  ·exact hb
  ·intro e'
   injection e' with e'
   omega
 refine⟨by rw[flat_snoc,List.length_append];exact ho,fun q hq=>?_,h.bel.grown hg h.bel.size (own_ge h.own)⟩
 rcases List.mem_append.1 hq with hq|hq
 ·exact(h.rv q hq).keepG key
 ·simp at hq
  subst hq
  exact hp.keepG key
theorem VsI.far{w wr:World}{v:Value}{ps:List PV}(h:VsI w v ps wr){b:Nat}(hb:b<w.heap.size∨wr.heap.size≤b):v.ownBlock≠some b:=fun e=>by
 have h1:=own_ge h.own b e
 have h2:=own_lt h.own e
 omega
theorem VsI.sl{w wr:World}{v:Value}{ps:List PV}(h:VsI w v ps wr)(hz:ps.length≤1000000):∃A c,v=.slice A ps.length c∧SL (fun _=>True) wr A ps.length c ps:=
 SL.of_own h.own rfl (by unfold reach;omega) (fun _ _=>trivial) fun p hp=>(h.rv p hp).mono fun _ _=>trivial
structure VlI(w:World)(k:Array Value)(c:VC)(v:Value)(ps:List PV)(wr:World):Prop where
 b0:Blk wr w.heap.size 24 k
 b1:Blk wr (w.heap.size+1) 29 c.arr
 sz:w.heap.size+2≤wr.heap.size
 vs:VsI w v ps wr
 ne:v.ownBlock≠some w.heap.size∧v.ownBlock≠some (w.heap.size+1)
theorem VlI.step{w wr w':World}{k:Array Value}{c:VC}{v:Value}{ps:List PV}(h:VlI w k c v ps wr)(hb:Below wr.heap.size wr w'):VlI w k c v ps w':=⟨h.b0.step hb,h.b1.step hb,Nat.le_trans h.sz hb.size,h.vs.step hb,h.ne⟩
theorem VlI.add{w wr w':World}{k:Array Value}{c:VC}{v v':Value}{ps:List PV}{p:PV}{m:Nat}(h:VlI w k c v ps wr)(hp:RV (fun b=>v.ownBlock≠some b) wr p.1 p.2)(hm:m=ps.length+1)(ho:w'.ownsRow w.heap.size 29 5 v' m (flat recV ps++recV p))(hg:wr.grownBy w' v.ownBlock)(hat:v'.ownBlock=v.ownBlock∨v'.ownBlock=some wr.heap.size):VlI w k c v' (ps++[p]) w':=by
 have hs:=h.sz
 refine⟨h.b0.grown hg (fun e=>h.ne.1 e.symm),h.b1.grown hg (fun e=>h.ne.2 e.symm),Nat.le_trans h.sz hg.size,h.vs.add hp hm ho hg hat,?_⟩
 rcases hat with e|e<;>rw[e]
 ·exact h.ne
 ·exact⟨fun e=>(by injection e;omega),fun e=>(by injection e;omega)⟩
theorem VlI.start{w:World}{c:VC}{k:Array Value}:VlI w k c (.slice none 0 0) [] ((w.alloc (.cells k 24)).alloc (.cells c.arr 29)):=by
 have hb:Below w.heap.size w ((w.alloc (.cells k 24)).alloc (.cells c.arr 29)):=((Below.refl _ _).alloc (qL) _).alloc (by simp) _
 exact⟨(Blk.new_at rfl).alloc _,Blk.new_at (by simp),by simp,⟨own_nil _ _ _ _,fun p hp=>by simp at hp,hb⟩,by simp[Value.ownBlock],by simp[Value.ownBlock]⟩
theorem xor_top(a:Nat)(h:a<18446744073709551616):a ^^^ 9223372036854775808=(a+9223372036854775808)%18446744073709551616:=by
 have key:∀r,r<9223372036854775808→r ^^^ 9223372036854775808=r+9223372036854775808:=by
  intro r hr
  have e:=Nat.two_pow_add_eq_or_of_lt (i:=63) (a:=1) (b:=r) (by simpa using hr)
  rw[show r+9223372036854775808=2^63*1+r by omega,e]
  apply Nat.eq_of_testBit_eq
  intro i
  rw[Nat.testBit_xor,Nat.testBit_or,show(9223372036854775808:Nat)=2^63 from rfl,Nat.mul_one]
  rw[Nat.testBit_two_pow]
  by_cases hi:63=i
  ·subst hi
   rw[Nat.testBit_lt_two_pow hr]
   simp
  ·simp[hi]
 rcases Nat.lt_or_ge a 9223372036854775808 with hl|hg
 ·rw[key a hl]
  omega
 ·obtain⟨r,rfl⟩:∃r,a=r+9223372036854775808:=⟨a-9223372036854775808,by omega⟩
  have hr:r<9223372036854775808:=by omega
  rw[←key r hr,Nat.xor_assoc,Nat.xor_self,Nat.xor_zero,key r hr]
  omega
theorem info_u8:(Tryz.prog.info? 5).map (fun i=>(i.zero,i.size,i.bytes))=some (some (.int .u8 0),1,1):=by kernel_rfl
def AppOk(base:Nat)(v:Value)(l:List Int)(w:World)(e:Ending)(w':World):Prop:=
 ∃v':Value,e=.returned v'∧w'.ownsRow base 5 1 v' l.length (bytesC l)∧w.grownBy w' v.ownBlock∧(v'.ownBlock=v.ownBlock∨∃g,v'.ownBlock=some g∧w.heap.size≤g)
structure ApI(w:World)(c:VC)(base:Nat)(v0 v:Value)(n:Nat)(l:List Int)(wr:World):Prop where
 b0:Blk wr w.heap.size 29 c.arr
 own:wr.ownsRow base 5 1 v n (bytesC l)
 ln:n=l.length
 gb:w.grownBy wr v0.ownBlock
 sz:w.heap.size+1≤wr.heap.size
 old:∀g,v0.ownBlock=some g→base≤g∧g<w.heap.size
 blk:v.ownBlock=v0.ownBlock∨∃g,v.ownBlock=some g∧w.heap.size+1≤g
 ba:base≤w.heap.size
section
variable {w wr w':World} {c:VC} {base n n':Nat} {v0 v v':Value} {l l':List Int}
theorem ApI.below(h:ApI w c base v0 v n l wr):Below base w wr:=(Below.refl _ _).grown h.gb h.ba fun g hg=>(h.old g hg).1
theorem ApI.ba2(h:ApI w c base v0 v n l wr):base≤wr.heap.size:=by have:=h.ba;have:=h.sz;omega
theorem ApI.nrow(h:ApI w c base v0 v n l wr):v.ownBlock≠some w.heap.size:=by
 intro e
 rcases h.blk with h1|⟨g,h1,h2⟩
 ·rw[h1] at e
  have:=(h.old _ e).2
  omega
 ·rw[h1] at e
  injection e with e
  omega
theorem ApI.step(h:ApI w c base v0 v n l wr)(hb:Below wr.heap.size wr w'):ApI w c base v0 v n l w':=by
 have hs:=hb.size
 have h0:=h.sz
 refine⟨h.b0.step hb,own_step h.own hb,h.ln,⟨?_,?_,?_,?_,fun k hk hne=>?_⟩,by omega,h.old,h.blk,h.ba⟩
 ·rw[hb.os];exact h.gb.os
 ·rw[hb.tape];exact h.gb.tape
 ·rw[hb.output];exact h.gb.output
 ·have:=h.gb.size;omega
 ·rw[hb.block k (by omega)];exact h.gb.block k hk hne
theorem ApI.grow(h:ApI w c base v0 v n l wr)(hg:wr.grownBy w' v.ownBlock)(hv:v'.ownBlock=v.ownBlock∨∃g,v'.ownBlock=some g∧wr.heap.size≤g)(hn:n'=l'.length)(ho:w'.ownsRow base 5 1 v' n' (bytesC l')):ApI w c base v0 v' n' l' w':=by
 have hs:=hg.size
 have h0:=h.sz
 refine⟨(hg.block _ (by omega) (fun e=>h.nrow e.symm)).trans h.b0,ho,hn,⟨?_,?_,?_,by omega,fun k hk hne=>?_⟩,by omega,h.old,?_,h.ba⟩
 ·rw[hg.os];exact h.gb.os
 ·rw[hg.tape];exact h.gb.tape
 ·rw[hg.output];exact h.gb.output
 ·rw[hg.block k (by omega) (fun e=>?_)]
  ·exact h.gb.block k hk hne
  ·rcases h.blk with h1|⟨g,h1,h2⟩
   ·exact hne (by rw[←h1];exact e)
   ·rw[h1] at e
    injection e with e
    omega
 ·rcases hv with h1|⟨g,h1,h2⟩
  ·rw[h1];exact h.blk
  ·exact .inr ⟨g,h1,by omega⟩
theorem ApI.app(h:ApI w c base v0 v n l wr){o:Obj}{m:Nat}{xs:List Int}(hm:m=xs.length)(hn:n'=n+m)(ho:w'.ownsRow base 5 1 v' (n+m) (bytesC l++bytesC xs))(hg:(wr.alloc o).grownBy w' v.ownBlock)(hat:v'.ownBlock=v.ownBlock∨v'.ownBlock=some (wr.alloc o).heap.size):ApI w c base v0 v' n' (l++xs) w':=by
 subst hn
 refine(h.step ((Below.refl _ _).alloc (qL) o)).grow hg (hat.imp id fun e=>⟨_,e,qL⟩) (by rw[List.length_append,h.ln,hm]) ?_
 rw[bytesC_app]
 exact ho
theorem ApI.app0(h:ApI w c base v0 v n l wr){m:Nat}{xs:List Int}(hm:m=xs.length)(hn:n'=n+m)(ho:w'.ownsRow base 5 1 v' (n+m) (bytesC l++bytesC xs))(hg:wr.grownBy w' v.ownBlock)(hat:v'.ownBlock=v.ownBlock∨v'.ownBlock=some wr.heap.size):ApI w c base v0 v' n' (l++xs) w':=by
 subst hn
 refine h.grow hg (hat.imp id fun e=>⟨_,e,qL⟩) (by rw[List.length_append,h.ln,hm]) ?_
 rw[bytesC_app]
 exact ho
theorem ApI.call(h:ApI w c base v0 v n l wr){e:Ending}(ha:AppOk base v l' wr e w'):∃v',e=.returned v'∧ApI w c base v0 v' l'.length l' w':=by
 obtain⟨v',he,ho,hg,hb⟩:=ha
 exact⟨v',he,h.grow hg hb rfl ho⟩
theorem ApI.done(h:ApI w c base v0 v n l wr):AppOk base v0 l w (.returned v) wr:=⟨v,rfl,by rw[←h.ln];exact h.own,h.gb,h.blk.imp id fun⟨g,h1,h2⟩=>⟨g,h1,by omega⟩⟩
theorem ApI.start(hb:base≤w.heap.size)(hn:n=l.length)(ho:w.ownsRow base 5 1 v0 n (bytesC l)):ApI w c base v0 v0 n l (w.alloc (.cells c.arr 29)):=by
 have h1:Below w.heap.size w (w.alloc (.cells c.arr 29)):=(Below.refl _ _).alloc (qL) _
 exact⟨Blk.new_at rfl,own_step ho h1,hn,⟨h1.os,h1.tape,h1.output,h1.size,fun k hk _=>h1.block k hk⟩,by simp,fun g hg=>⟨own_ge ho g hg,own_lt ho hg⟩,.inl rfl,hb⟩
end
theorem reads1(w:World)(z:Int):Reads (w.alloc (.cells #[.int .u8 z] 5)) (w.heap.size+1) 1 (some ⟨w.heap.size,0,none⟩) 1 (bytesC [z]):=
 ⟨rfl,fun _=>⟨_,rfl,by show w.heap.size<w.heap.size+1;omega,fun j' u hu=>news_at w 5 (bytesC [z]) j' u hu⟩⟩
theorem reads2(w:World)(y z:Int):Reads (w.alloc (.cells #[.int .u8 y,.int .u8 z] 5)) (w.heap.size+1) 1 (some ⟨w.heap.size,0,none⟩) 2 (bytesC [y,z]):=
 ⟨rfl,fun _=>⟨_,rfl,by show w.heap.size<w.heap.size+1;omega,fun j' u hu=>news_at w 5 (bytesC [y,z]) j' u hu⟩⟩
theorem bytesC_one(l:List Int):∀u∈bytesC l,u.oneCell'=true:=by
 intro u hu
 simp only[bytesC,List.mem_map] at hu
 obtain⟨z,_,rfl⟩:=hu
 rfl
theorem append_str_blk{P:Program}(w:World)(base:Nat)(t u ty e:TypeId)(i:TypeInfo)(ht:P.underlying t=some (.slice e))(hu:P.underlying u=some .string)(hi:P.info? e=some i)(hz:i.zero=some (.int .u8 0))(hsize:i.size=1)(hby:i.bytes=1)(v:Value)(n:Nat)(xs:List Value)(hown:w.ownsRow base e 1 v n xs)(s:ByteArray)(h63:n+s.size≤maxLen)(hbytes:n+s.size≤140737488355328){v':Value}{w':World}(hrun:(Builtin.append_ #[t,u] ty #[v,.string s]).run P w=.ok v' w')(hnil:v'=.slice none 0 0↔v=.slice none 0 0∧s.size=0):v'.ownBlock=v.ownBlock∨v'.ownBlock=some w.heap.size:=by
 have hsmall:n+s.size≤9223372036854775807:=by simp only[maxLen] at h63;omega
 rcases hown.2 with⟨rfl,rfl⟩|⟨g,cap,cur,rfl,hbg,hg,hnc,hcm,hcs,htake⟩
 ·by_cases hm:s.size=0
  ·rw[hnil.2 ⟨rfl,hm⟩]
   exact .inl rfl
  ·have hr:=run_append_nil_string (P:=P) w t u ty e i (.int .u8 0) ht hu hi hz s (by omega) (by omega) (by rw[hby];omega)
   rw[hr] at hrun
   cases hrun
   exact .inr rfl
 ·by_cases hroom:n+s.size≤cap
  ·have hcs':cur.size=cap:=by simpa using hcs
   have hr:=Lib.run_append_room_string (P:=P) w t u ty e i ht hu hi hsize g n cap cur hg s hroom (by omega)
   rw[hr] at hrun
   cases hrun
   exact .inl rfl
  ·have hxl:xs.length=n:=by simpa using hown.1
   have hr:=Lib.run_append_grow_string (P:=P) w t u ty e i (.int .u8 0) ht hu hi hz ⟨g,0,none⟩ n cap xs (by rw[hsize];simpa using hxl) (hown.cells (g:=g) rfl) s (by omega) (by omega) (by rw[hby];exact growslice_fits (by omega) (by omega))
   rw[hr] at hrun
   cases hrun
   exact .inr rfl
theorem wpList_append_str{P:Program}{w:World}{ops:Array Oper}{rest:List Oper}{o:Oper}{a:Act}{Q:Exit→Act→World→Prop}(hgd:o.guard=none)(sl x:Operand)(t u:TypeId)(ho:o.op=.call {callee:=.builtin .append,args:=#[sl,x],argTypes:=#[t,u]})(base:Nat)(e:TypeId)(i:TypeInfo)(ht:P.underlying t=some (.slice e))(hu:P.underlying u=some .string)(hi:P.info? e=some i)(hz:i.zero=some (.int .u8 0))(hsize:i.size=1)(hby:i.bytes=1)(v:Value)(n:Nat)(xs:List Value)(hs:a.eval sl=v)(hown:w.ownsRow base e 1 v n xs)(s:ByteArray)(hx:a.eval x=.string s)(h63:n+s.size≤maxLen)(hbytes:n+s.size≤140737488355328)(hbase:base≤w.heap.size)(h:∀v' w',w'.ownsRow base e 1 v' (n+s.size) (xs++Lib.strCells s)→w.grownBy w' v.ownBlock→(v'.ownBlock=v.ownBlock∨v'.ownBlock=some w.heap.size)→wpList P ops Q rest (a.put o.dst v') w'):wpList P ops Q (o::rest) a w:=by
 refine wpList_plain hgd fun K hK=>?_
 obtain⟨v',w',hr,h2,h3,h4⟩:=Lib.run_append_own_string (P:=P) w base t u o.type e i ht hu hi hz hsize hby v n xs hown s h63 hbytes hbase
 have h5:=append_str_blk w base t u o.type e i ht hu hi hz hsize hby v n xs hown s h63 hbytes hr h4
 unfold Oper.wp execOp
 simp only[ho,resolve,invoke,builtin,Sem.run_bind,Sem.run_pure,Result.andThen_ok,List.map_toArray,List.map_cons,List.map_nil,hs,hx,hr]
 exact hK _ _ (h v' w' h2 h3 h5)
theorem strCells_eq(s:ByteArray):Lib.strCells s=bytesC (strN s):=by
 unfold Lib.strCells bytesC strN
 rw[List.map_map]
 rfl
end Go.Proofs.YtfkapannahcjiaaGreatDoor
