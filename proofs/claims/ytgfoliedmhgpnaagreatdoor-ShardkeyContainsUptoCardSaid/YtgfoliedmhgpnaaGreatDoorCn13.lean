/- A part of the proof. -/
import Derived.Test.YtgfoliedmhgpnaaGreatDoorCn3
import Derived.Test.YtgfoliedmhgpnaaGreatDoorCn4
import Derived.Test.YtgfoliedmhgpnaaGreatDoorCn12
import Derived.Lib.AppendStr
set_option maxRecDepth 100000
set_option maxHeartbeats 16000000
open Go.Proofs.Tryz
open ByteArray (empty)
namespace Go.Proofs.YtgfoliedmhgpnaaGreatDoor
open Go.RowKit
section
variable {k o i q size:Nat} {w:World} {a x:Int}
theorem vY{a:Nat}(h:a<=w.heap.size)(o:Obj):a<=(w.alloc o).heap.size:=by simp;omega
def dj(x:aC):List Od->Option (List aC)
 | []=>some []
 | q::r=>match cT x q.p with
  | none=>none
  | some y=>(dj x r).map (y::·)
theorem CG{x:aC}{ks:List Od}{q:Od}(h:ks[i]?=some q):dj x (ks.drop i)=match cT x q.p with
 | none=>none
 | some y=>(dj x (ks.drop (i+1))).map (y::·):=by rw[cU h,dj]
noncomputable def jA(ks:List Od)(x:aC):Option (List aC):=if x.k=5/\aJ x=true then dj x ks else none
theorem tE{ks:List Od}{x:aC}(h:x.k=5)(h':aJ x=true):jA ks x=dj x ks:=OW ⟨h,h'⟩
theorem yh{ks:List Od}{x:aC}(h:x.k≠5):jA ks x=none:=OQ fun e=>h e.1
theorem CH{ks:List Od}{x:aC}(h:aJ x=false):jA ks x=none:=OQ fun e=>by rw[h] at e;cases e.2
end
structure EP(w:World)(v:Value)(ps:List PV)(wr:World):Prop where
 own:wr.ownsRow w.heap.size 29 5 v ps.length (aN bD ps)
 rv:∀p∈ps,RV (fun b=>v.ownBlock≠some b) wr p.1 p.2
 bel:Bl w wr
section
variable {b m c size:Nat} {w w' wr:World} {v v':Value} {A:Option Addr}
theorem EP.step{ps:List PV}(h:EP w v ps wr)(hb:Bl wr w'):EP w v ps w':=⟨af h.own hb,fun p hp=>(h.rv p hp).step hb,h.bel.Ml hb⟩
theorem EP.add{ps:List PV}{p:PV}(h:EP w v ps wr)(hp:RV (fun b=>v.ownBlock≠some b) wr p.1 p.2)(hm:m=ps.length+1)(ho:w'.ownsRow w.heap.size 29 5 v' m (aN bD ps++bD p))(hg:wr.grownBy w' v.ownBlock)(hat:v'.ownBlock=v.ownBlock\/v'.ownBlock=some wr.heap.size):EP w v' (ps++[p]) w':=by
  subst hm
  have key:∀b,v.ownBlock≠some b->b<wr.heap.size->v'.ownBlock≠some b/\w'.heap[b]?=wr.heap[b]?:=fun b hb hl=>by
   refine⟨?_,hg.block b hl (fun e=>hb e.symm)⟩;rcases hat with e|e<;>rw[e]
   ·exact hb
   ·intro e';injection e' with e'
    omega
  refine⟨by rw[cS,OK];exact ho,fun q hq=>?_,h.bel.grown hg h.bel.size (ak h.own)⟩;rcases OP.1 hq with hq|hq
  ·exact(h.rv q hq).Mr key
  ·simp at hq;subst hq;exact hp.Mr key
theorem EP.Mu{ps:List PV}(h:EP w v ps wr)(hb:b<w.heap.size\/wr.heap.size<=b):v.ownBlock≠some b:=fun e=>by
 have h1:=ak h.own b e;have h2:=eO h.own e;omega
theorem EP.sl{ps:List PV}(h:EP w v ps wr)(hz:ps.length<=1000000):∃A c,v=.slice A ps.length c/\SL (fun _=>True) wr A ps.length c ps:=
 SL.Mq h.own rfl (by unfold aF;omega) (fun _ _=>trivial) fun p hp=>(h.rv p hp).mono fun _ _=>trivial
end
structure EQ(w:World)(k:Array Value)(c:VC)(v:Value)(ps:List PV)(wr:World):Prop where
 b0:aG wr w.heap.size 24 k
 b1:aG wr (w.heap.size+1) 29 c.arr
 sz:w.heap.size+2<=wr.heap.size
 vs:EP w v ps wr
 ne:v.ownBlock≠some w.heap.size/\v.ownBlock≠some (w.heap.size+1)
section
variable {k b m i c size:Nat} {w w' wr:World} {a:Int} {v v':Value}
theorem EQ.step{k:Array Value}{c:VC}{ps:List PV}(h:EQ w k c v ps wr)(hb:Bl wr w'):EQ w k c v ps w':=⟨h.b0.step hb,h.b1.step hb,OU h.sz hb.size,h.vs.step hb,h.ne⟩
theorem EQ.add{k:Array Value}{c:VC}{ps:List PV}{p:PV}(h:EQ w k c v ps wr)(hp:RV (fun b=>v.ownBlock≠some b) wr p.1 p.2)(hm:m=ps.length+1)(ho:w'.ownsRow w.heap.size 29 5 v' m (aN bD ps++bD p))(hg:wr.grownBy w' v.ownBlock)(hat:v'.ownBlock=v.ownBlock\/v'.ownBlock=some wr.heap.size):EQ w k c v' (ps++[p]) w':=by
  have hs:=h.sz;refine⟨h.b0.grown hg (fun e=>h.ne.1 e.symm),h.b1.grown hg (fun e=>h.ne.2 e.symm),OU h.sz hg.size,h.vs.add hp hm ho hg hat,?_⟩;rcases hat with e|e<;>rw[e]
  ·exact h.ne
  ·exact⟨fun e=>(by injection e;omega),fun e=>(by injection e;omega)⟩
theorem EQ.start{c:VC}{k:Array Value}:EQ w k c (.slice none 0 0) [] ((w.alloc (.cells k 24)).alloc (.cells c.arr 29)):=by
 have hb:Bl w ((w.alloc (.cells k 24)).alloc (.cells c.arr 29)):=((OG _ _).alloc (qL) _).alloc sM _;exact⟨(aG.Mm rfl).alloc _,aG.Mm sM,by simp,⟨bP _ _ _ _,fun p hp=>by simp at hp,hb⟩,by simp[Value.ownBlock],by simp[Value.ownBlock]⟩
theorem Hk(a:Nat)(h:a<18446744073709551616):a ^^^ 9223372036854775808=(a+9223372036854775808)%18446744073709551616:=by
 have key:∀r,r<9223372036854775808->r ^^^ 9223372036854775808=r+9223372036854775808:=by
  intro r hr;have e:=Nat.two_pow_add_eq_or_of_lt (i:=63) (a:=1) (b:=r) (by simpa using hr);rw[show r+9223372036854775808=2^63*1+r by omega,e];apply Nat.eq_of_testBit_eq;intro i;rw[Nat.testBit_xor,Nat.testBit_or,show(9223372036854775808:Nat)=2^63 from rfl,RY];rw[Nat.testBit_two_pow];by_cases hi:63=i
  ·subst hi;rw[Nat.testBit_lt_two_pow hr];simp
  ·simp[hi]
 rcases Qn a 9223372036854775808 with hl|hg
 ·rw[key a hl];omega
 ·obtain⟨r,rfl⟩:∃r,a=r+9223372036854775808:=⟨a-9223372036854775808,by omega⟩;have hr:r<9223372036854775808:=oM
  rw[<-key r hr,Nat.xor_assoc,Nat.xor_self,Nat.xor_zero,key r hr];omega
theorem Hl:(Tryz.prog.info? 5).map (fun i=>(i.zero,i.size,i.bytes))=some (some (.int .u8 0),1,1):=kR
def jB(base:Nat)(v:Value)(l:List Int)(w:World)(e:Ending)(w':World):Prop:=
 ∃v':Value,e=.returned v'/\w'.ownsRow base 5 1 v' l.length (ah l)/\w.grownBy w' v.ownBlock/\(v'.ownBlock=v.ownBlock\/∃g,v'.ownBlock=some g/\w.heap.size<=g)
end
structure nC(w:World)(c:VC)(base:Nat)(v0 v:Value)(n:Nat)(l:List Int)(wr:World):Prop where
 b0:aG wr w.heap.size 29 c.arr
 own:wr.ownsRow base 5 1 v n (ah l)
 ln:n=l.length
 gb:w.grownBy wr v0.ownBlock
 sz:w.heap.size+1<=wr.heap.size
 old:∀g,v0.ownBlock=some g->base<=g/\g<w.heap.size
 blk:v.ownBlock=v0.ownBlock\/∃g,v.ownBlock=some g/\w.heap.size+1<=g
 ba:base<=w.heap.size
section
variable {n g o m i c base size:Nat} {w w' wr:World} {e t:TypeId} {P:Program} {Q:Exit -> Act -> World -> Prop} {a op x y:Int} {l:List ByteArray} {v v':Value} {s:ByteArray} {ha:Bool} {xs:List Value}
section
variable {w wr w':World} {c:VC} {base n n':Nat} {v0 v v':Value} {l l':List Int}
theorem nC.below(h:nC w c base v0 v n l wr):Below base w wr:=(OG _ _).grown h.gb h.ba fun g hg=>(h.old g hg).1
theorem nC.Nk(h:nC w c base v0 v n l wr):base<=wr.heap.size:=by have:=h.ba;have:=h.sz;omega
theorem nC.Nt(h:nC w c base v0 v n l wr):v.ownBlock≠some w.heap.size:=by
 intro e;rcases h.blk with h1|⟨g,h1,h2⟩
 ·rw[h1] at e;have:=(h.old _ e).2;omega
 ·rw[h1] at e;injection e with e
  omega
theorem nC.step(h:nC w c base v0 v n l wr)(hb:Bl wr w'):nC w c base v0 v n l w':=by
 have hs:=hb.size;have h0:=h.sz;refine⟨h.b0.step hb,af h.own hb,h.ln,⟨?_,?_,?_,?_,fun k hk hne=>?_⟩,by omega,h.old,h.blk,h.ba⟩
 ·rw[hb.os];exact h.gb.os
 ·rw[hb.tape];exact h.gb.tape
 ·rw[hb.output];exact h.gb.output
 ·have:=h.gb.size;omega
 ·rw[hb.block k oM];exact h.gb.block k hk hne
theorem nC.grow(h:nC w c base v0 v n l wr)(hg:wr.grownBy w' v.ownBlock)(hv:v'.ownBlock=v.ownBlock\/∃g,v'.ownBlock=some g/\wr.heap.size<=g)(hn:n'=l'.length)(ho:w'.ownsRow base 5 1 v' n' (ah l')):nC w c base v0 v' n' l' w':=by
 have hs:=hg.size;have h0:=h.sz;refine⟨(hg.block _ oM (fun e=>h.Nt e.symm)).trans h.b0,ho,hn,⟨?_,?_,?_,by omega,fun k hk hne=>?_⟩,by omega,h.old,?_,h.ba⟩
 ·rw[hg.os];exact h.gb.os
 ·rw[hg.tape];exact h.gb.tape
 ·rw[hg.output];exact h.gb.output
 ·rw[hg.block k oM (fun e=>?_)]
  ·exact h.gb.block k hk hne
  ·rcases h.blk with h1|⟨g,h1,h2⟩
   ·exact hne (by rw[<-h1];exact e)
   ·rw[h1] at e;injection e with e
    omega
 ·rcases hv with h1|⟨g,h1,h2⟩
  ·rw[h1];exact h.blk
  ·exact .inr ⟨g,h1,by omega⟩
theorem nC.app(h:nC w c base v0 v n l wr){o:Obj}{xs:List Int}(hm:m=xs.length)(hn:n'=n+m)(ho:w'.ownsRow base 5 1 v' (n+m) (ah l++ah xs))(hg:(wr.alloc o).grownBy w' v.ownBlock)(hat:v'.ownBlock=v.ownBlock\/v'.ownBlock=some (wr.alloc o).heap.size):nC w c base v0 v' n' (l++xs) w':=by
 subst hn;refine(h.step ((OG _ _).alloc (qL) o)).grow hg (hat.imp id fun e=>⟨_,e,qL⟩) (by rw[OK,h.ln,hm]) ?_;rw[rG];exact ho
theorem nC.Nu(h:nC w c base v0 v n l wr){xs:List Int}(hm:m=xs.length)(hn:n'=n+m)(ho:w'.ownsRow base 5 1 v' (n+m) (ah l++ah xs))(hg:wr.grownBy w' v.ownBlock)(hat:v'.ownBlock=v.ownBlock\/v'.ownBlock=some wr.heap.size):nC w c base v0 v' n' (l++xs) w':=by
 subst hn;refine h.grow hg (hat.imp id fun e=>⟨_,e,qL⟩) (by rw[OK,h.ln,hm]) ?_;rw[rG];exact ho
theorem nC.call(h:nC w c base v0 v n l wr){e:Ending}(ha:jB base v l' wr e w'):∃v',e=.returned v'/\nC w c base v0 v' l'.length l' w':=by
 obtain⟨v',he,ho,hg,hb⟩:=ha;exact⟨v',he,h.grow hg hb rfl ho⟩
theorem nC.done(h:nC w c base v0 v n l wr):jB base v0 l w (.returned v) wr:=⟨v,rfl,by rw[<-h.ln];exact h.own,h.gb,h.blk.imp id fun⟨g,h1,h2⟩=>⟨g,h1,by omega⟩⟩
theorem nC.start(hb:base<=w.heap.size)(hn:n=l.length)(ho:w.ownsRow base 5 1 v0 n (ah l)):nC w c base v0 v0 n l (w.alloc (.cells c.arr 29)):=by
 have h1:Bl w (w.alloc (.cells c.arr 29)):=(OG _ _).alloc (qL) _;exact⟨aG.Mm rfl,af ho h1,hn,⟨h1.os,h1.tape,h1.output,h1.size,fun k hk _=>h1.block k hk⟩,by simp,fun g hg=>⟨ak ho g hg,eO ho hg⟩,.inl rfl,hb⟩
end
theorem kN(w:World)(z:Int):dz (w.alloc (.cells #[.int .u8 z] 5)) (w.heap.size+1) 1 (some ⟨w.heap.size,0,none⟩) 1 (ah [z]):=
 ⟨rfl,fun _=>⟨_,rfl,by show w.heap.size<w.heap.size+1;omega,fun j' u hu=>ag w 5 (ah [z]) j' u hu⟩⟩
theorem JO(w:World)(y z:Int):dz (w.alloc (.cells #[.int .u8 y,.int .u8 z] 5)) (w.heap.size+1) 1 (some ⟨w.heap.size,0,none⟩) 2 (ah [y,z]):=
 ⟨rfl,fun _=>⟨_,rfl,by show w.heap.size<w.heap.size+1;omega,fun j' u hu=>ag w 5 (ah [y,z]) j' u hu⟩⟩
theorem dk(l:List Int):∀u∈ah l,u.oneCell'=true:=by
 intro u hu;simp only[ah,PK] at hu;obtain⟨z,_,rfl⟩:=hu;rfl
theorem qR(w:World)(base:Nat)(t u ty e:TypeId)(i:TypeInfo)(ht:P.underlying t=some (.slice e))(hu:P.underlying u=some .string)(hi:P.info? e=some i)(hz:i.zero=some (.int .u8 0))(hsize:i.size=1)(hby:i.bytes=1)(v:Value)(n:Nat)(xs:List Value)(hown:w.ownsRow base e 1 v n xs)(s:ByteArray)(h63:n+s.size<=maxLen)(hbytes:n+s.size<=140737488355328)(hrun:(Builtin.append_ #[t,u] ty #[v,.string s]).run P w=.ok v' w')(hnil:v'=.slice none 0 0↔v=.slice none 0 0/\s.size=0):v'.ownBlock=v.ownBlock\/v'.ownBlock=some w.heap.size:=by
  have hsmall:n+s.size<=9223372036854775807:=by simp only[maxLen] at h63;omega
  rcases hown.2 with⟨rfl,rfl⟩|⟨g,cap,cur,rfl,hbg,hg,hnc,hcm,hcs,htake⟩
  ·by_cases hm:s.size=0
   ·rw[hnil.2 ⟨rfl,hm⟩];exact .inl rfl
   ·have hr:=run_append_nil_string (P:=P) w t u ty e i (.int .u8 0) ht hu hi hz s oM oM (by rw[hby];omega);rw[hr] at hrun;cases hrun;exact .inr rfl
  ·by_cases hroom:n+s.size<=cap
   ·have hcs':cur.size=cap:=by simpa using hcs
    have hr:=Lib.run_append_room_string (P:=P) w t u ty e i ht hu hi hsize g n cap cur hg s hroom oM;rw[hr] at hrun;cases hrun;exact .inl rfl
   ·have hxl:xs.length=n:=by simpa using hown.1
    have hr:=Lib.run_append_grow_string (P:=P) w t u ty e i (.int .u8 0) ht hu hi hz ⟨g,0,none⟩ n cap xs (by rw[hsize];simpa using hxl) (hown.cells (g:=g) rfl) s oM oM (by rw[hby];exact growslice_fits oM oM);rw[hr] at hrun;cases hrun;exact .inr rfl
theorem nr{ops:Array Oper}{rest:List Oper}{o:Oper}{a:Act}(hgd:o.guard=none)(sl x:Operand)(t u:TypeId)(ho:o.op=.call {callee:=.builtin .append,args:=#[sl,x],argTypes:=#[t,u]})(base:Nat)(e:TypeId)(i:TypeInfo)(ht:P.underlying t=some (.slice e))(hu:P.underlying u=some .string)(hi:P.info? e=some i)(hz:i.zero=some (.int .u8 0))(hsize:i.size=1)(hby:i.bytes=1)(v:Value)(n:Nat)(xs:List Value)(hs:a.eval sl=v)(hown:w.ownsRow base e 1 v n xs)(s:ByteArray)(hx:a.eval x=.string s)(h63:n+s.size<=maxLen)(hbytes:n+s.size<=140737488355328)(hbase:base<=w.heap.size)(h:∀v' w',w'.ownsRow base e 1 v' (n+s.size) (xs++Lib.strCells s)->w.grownBy w' v.ownBlock->(v'.ownBlock=v.ownBlock\/v'.ownBlock=some w.heap.size)->wpList P ops Q rest (a.put o.dst v') w'):wpList P ops Q (o::rest) a w:=by
  refine wpList_plain hgd fun K hK=>?_;obtain⟨v',w',hr,h2,h3,h4⟩:=Lib.run_append_own_string (P:=P) w base t u o.type e i ht hu hi hz hsize hby v n xs hown s h63 hbytes hbase;have h5:=qR w base t u o.type e i ht hu hi hz hsize hby v n xs hown s h63 hbytes hr h4;unfold Oper.wp execOp;simp only[ho,resolve,invoke,builtin,Qo,Ro,Qj,List.map_toArray,Pp,RM,hs,hx,hr];exact hK _ _ (h v' w' h2 h3 h5)
theorem vZ(s:ByteArray):Lib.strCells s=ah (eI s):=by
 unfold Lib.strCells ah eI;rw[Rc];rfl
end
end Go.Proofs.YtgfoliedmhgpnaaGreatDoor
