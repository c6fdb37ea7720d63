/- Parts of the proof, joined: ChRefA, MrRef1, MrRef2, MrRef3. -/
import Derived.Test.YtlicnjecnehaoaaGreatDoorRa1
import Derived.Test.YtlicnjecnehaoaaGreatDoorRa15
import Derived.Test.YtlicnjecnehaoaaGreatDoorRa20
import Derived.Test.YtlicnjecnehaoaaGreatDoorRa19
import Derived.Deep.RegionHeld3
set_option maxRecDepth 100000
set_option maxHeartbeats 16000000
set_option linter.unusedSimpArgs false
namespace Go.Proofs.YtlicnjecnehaoaaGreatDoor
open Go.RowKit
def verC(v:Int)(c:Ch):Ch:=⟨c.lo,c.hi,c.sh,v,c.ju⟩
theorem rbegin_any(R:Ro)(a:RA)(key:ByteArray)(w:World)(h:RR w a R):
 Calls Tryz.prog 64 #[rval a R,.string key] w fun e w'=>e=.returned (.int .i64 (idxI (begB key) R.cs))∧Below w.heap.size w w':=by
 obtain⟨KA,kn,kc,CA,cn,cc⟩:=a
 have H:=qD h
 have hn:Hid (cn=R.cs.length):=h.cs.ln
 have hcz:cn*56≤reach:=h.cs.sz
 have hkn:cn≤140737488355328:=by unfold reach at hcz;omega
 clear h hcz
 have B0:Hid (Blk (w.alloc (.cells (rarr ⟨KA,kn,kc,CA,cn,cc⟩ R) 27)) w.heap.size 27 (rarr ⟨KA,kn,kc,CA,cn,cc⟩ R)):=Blk.new_at rfl
 have BE:Hid (Below w.heap.size w (w.alloc (.cells (rarr ⟨KA,kn,kc,CA,cn,cc⟩ R) 27))):=(Below.refl _ _).alloc (qL) _
 go_enter Tryz.func64,Tryz.ntmps64
 go_upto_region 1 with fail
 change (Code.region 1 _ _).wp _ _ _ (w.alloc (.cells (rarr ⟨KA,kn,kc,CA,cn,cc⟩ R) 27))
 generalize w.alloc (.cells (rarr ⟨KA,kn,kc,CA,cn,cc⟩ R) 27)=wa at*
 obtain⟨q0,q1,q2,q3,q4,q5,qz⟩:=blk_ro B0.out
 simp only at q1 q5
 clear q0 q1 q2 q3 q4
 go_wp2_with fail
 go_loopw [5] (fun v wr=>∃i:Nat,i≤cn∧v=.int .i64 i∧idxI (begB key) R.cs=idxFrom (begB key) (R.cs.drop i) i∧wr=wa) (fun v _=>cn-(intOf v).toNat)
 case atStart=>exact⟨0,Nat.zero_le _,rfl,rfl,rfl⟩
 case round=>
  obtain⟨i,hi,rfl,ha,rfl⟩:=hrel
  have HA:=qD ha
  clear ha
  by_cases hlt:i<cn
  ·obtain⟨b,off,x,hA,hb,hx,e0,_,_,_,_⟩:=H.out.cs.sr.at5 hlt
   simp only at hA
   subst hA
   have HX:=qD (idxFrom_at (p:=begB key) hx)
   have g0:=(BE.out.cell (p:=⟨b,off+i*5,none⟩) hb).trans e0
   clear hx e0
   cases hq:(x.lo.toList==key.toList)
   ·have HF:Hid (idxI (begB key) R.cs=idxFrom (begB key) (R.cs.drop (i+1)) (i+1)):=by rw[Hid,HA.out,HX.out];unfold begB;rw[hq];rfl
    go_wp2_with fail
    go_roundw
    case rel=>exact⟨i+1,by omega,by go_num,HF.out,trivial⟩
    case measure=>simp[intOf];omega
   ·have HF:Hid (idxI (begB key) R.cs=(i:Int)):=by rw[Hid,HA.out,HX.out];unfold begB;rw[hq];rfl
    go_wp2_with fail
    go_ret
    exact⟨by rw[HF.out];rfl,BE.out⟩
  ·have HF:Hid (idxI (begB key) R.cs=-1):=by rw[Hid,HA.out];exact idxFrom_end (by have:=hn.out;omega)
   go_wp2_with fail
   go_ret
   exact⟨by rw[HF.out];rfl,BE.out⟩
def RepOk(a:RA)(R:Ro)(cs:List Ch)(w:World)(e:Ending)(w':World):Prop:=
 ∃(A:Option Addr) (c:Nat),e=.returned (rval ⟨a.KA,a.kn,a.kc,A,cs.length,c⟩ R.nx)∧w'.ownsRow w.heap.size 81 5 (.slice A cs.length c) cs.length (flat recC cs)∧Below w.heap.size w w'
structure Rpl(w:World)(a:RA)(R:Ro)(v:Value)(n:Nat)(cs:List Ch)(wr:World):Prop where
 b0:Blk wr w.heap.size 27 (rarr a R.nx)
 b1:Blk wr (w.heap.size+1) 27 (rarr RA.zero Ro.zero)
 own:wr.ownsRow (w.heap.size+2) 81 5 v n (flat recC cs)
 bel:Below w.heap.size w wr
theorem Rpl.step{w wr w1:World}{a:RA}{R:Ro}{v:Value}{n:Nat}{cs:List Ch}(h:Rpl w a R v n cs wr)(hb:Below wr.heap.size wr w1):Rpl w a R v n cs w1:=⟨h.b0.step hb,h.b1.step hb,own_step h.own hb,h.bel.step' hb⟩
theorem Rpl.grow{w wr w1:World}{a:RA}{R:Ro}{v v':Value}{n n':Nat}{cs ds:List Ch}(h:Rpl w a R v n cs wr)(hg:wr.grownBy w1 v.ownBlock)(ho:w1.ownsRow (w.heap.size+2) 81 5 v' n' (flat recC ds)):Rpl w a R v' n' ds w1:=by
 have hge:=own_ge h.own
 refine⟨h.b0.grown hg (fun e=>by have:=hge _ e.symm;omega),h.b1.grown hg (fun e=>by have:=hge _ e.symm;omega),ho,h.bel.grown hg ?_ fun k hk=>?_⟩
 ·have:=h.b1.lt;omega
 ·have:=hge k hk;omega
theorem replace_any(R:Ro)(a:RA)(i n lb:Nat)(L:List Ch)(ia na:Int)(w:World)(h:RR w a R)(hL:Blk w lb 81 (flat recC L).toArray)(hin:i+n≤R.cs.length)(hn0:0<n)(hm:L.length≤2)(hz:R.cs.length≤80)(hia:ia=(i:Nat))(hna:na=(n:Nat)):
 Calls Tryz.prog 65 #[rval a R,.int .i64 ia,.int .i64 na,.slice (some ⟨lb,0,none⟩) L.length L.length] w (RepOk a R (repl R.cs i n (L.map (verC (nx R.ver)))) w):=by
 subst hia hna
 obtain⟨KA,kn,kc,CA,cn,cc⟩:=a
 obtain⟨j0,hj0,hy0,hy1,hy2⟩:=info_parts info_chunk
 have H:=qD h
 have hn:Hid (cn=R.cs.length):=h.cs.ln
 have hcc:Hid (cn≤cc):=h.cs.sr.lc
 have HR:=qD (h.cs.sr.reads recC_length (by omega))
 have HL:=qD hL
 obtain⟨m,hml⟩:∃m,m=L.length:=⟨_,rfl⟩
 rw[←hml] at hm ⊢
 have HM:=qD hml
 have hcn:cn≤80:=by rw[hn.out];exact hz
 have hicn:i+n≤cn:=by rw[hn.out];exact hin
 clear h hL hin hz hml
 have B0:Hid (Blk ((w.alloc (.cells (rarr ⟨KA,kn,kc,CA,cn,cc⟩ R) 27)).alloc (.cells (rarr RA.zero Ro.zero) 27)) w.heap.size 27 (rarr ⟨KA,kn,kc,CA,cn,cc⟩ R)):=(Blk.new_at rfl).alloc _
 have B1:Hid (Blk ((w.alloc (.cells (rarr ⟨KA,kn,kc,CA,cn,cc⟩ R) 27)).alloc (.cells (rarr RA.zero Ro.zero) 27)) (w.heap.size+1) 27 (rarr RA.zero Ro.zero)):=Blk.new_at (by simp)
 have BE:Hid (Below w.heap.size w ((w.alloc (.cells (rarr ⟨KA,kn,kc,CA,cn,cc⟩ R) 27)).alloc (.cells (rarr RA.zero Ro.zero) 27))):=((Below.refl _ _).alloc (qL) _).alloc (by simp) _
 go_enter Tryz.func65,Tryz.ntmps65
 go_upto_region 1 with fail
 change (Code.region 1 _ _).wp _ _ _ ((w.alloc (.cells (rarr ⟨KA,kn,kc,CA,cn,cc⟩ R) 27)).alloc (.cells (rarr RA.zero Ro.zero) 27))
 generalize (w.alloc (.cells (rarr ⟨KA,kn,kc,CA,cn,cc⟩ R) 27)).alloc (.cells (rarr RA.zero Ro.zero) 27)=wa at*
 obtain⟨q0,q1,q2,q3,q4,q5,qz⟩:=blk_ro B0.out
 simp only at q1 q5
 have I0:Hid (Rpl w ⟨KA,kn,kc,CA,cn,cc⟩ R (.slice none 0 0) 0 [] (wa.setCell ⟨w.heap.size,4,none⟩ (.int .i64 (nx R.ver)))):=
  ⟨B0.out.set_ 4 _,B1.out.far (by show w.heap.size+1≠w.heap.size;omega) _,own_nil _ _ _ _,BE.out.setCell (qL) _⟩
 go_upto_region 2 with fail
 clear q0 q1 q2 q3 q4 q5 qz B0 B1 BE
 change (Code.region 2 _ _).wp _ _ _ (wa.setCell ⟨w.heap.size,4,none⟩ (.int .i64 (nx R.ver)))
 generalize wa.setCell ⟨w.heap.size,4,none⟩ (.int .i64 (nx R.ver))=w1 at*
 obtain⟨q0,q1,q2,q3,q4,q5,qz⟩:=blk_ro I0.out.b0
 simp only at q1 q5
 have hiI:(i:Int)≤(cc:Int):=by have:=hcc.out;omega
 have hiN:i≤cc:=by have:=hcc.out;omega
 have H1:=qD (flat_one recC_one (R.cs.take i))
 have HR1:Hid (Reads w1 w.heap.size 5 CA i (flat recC (R.cs.take i))):=by
  have:=(HR.out.below I0.out.bel).take (k:=i) (by show i≤cn;omega)
  rw[flat_take recC_length] at this
  exact this
 have hsz1:w.heap.size+2≤w1.heap.size:=I0.out.b1.lt
 go_wp2_with (at_builtin;refine wpList_append_any _ rfl _ _ 25 rfl (w.heap.size+2) 81 j0 (aggC Ch.zero) 5 56 Tryz.underlying25 hj0 hy0 hy1 hy2 rfl (by decide) (.slice none 0 0) 0 [] rfl I0.out.own w.heap.size CA i cc (flat recC (R.cs.take i)) rfl HR1.out H1.out (by unfold maxLen;omega) (by omega) hsz1 ?_)
 intro v' w2 hown2 hg2 _
 have htl:(R.cs.take i).length=i:=by rw[List.length_take,Nat.min_eq_left (by have:=hn.out;omega)]
 have I2:Hid (Rpl w ⟨KA,kn,kc,CA,cn,cc⟩ R v' i (R.cs.take i) w2):=I0.out.grow hg2 (by simpa using hown2)
 obtain⟨A2,c2,rfl,_⟩:=own_slice hown2
 clear q0 q1 q2 q3 q4 q5 qz I0 HR1 H1 hown2 hg2 hsz1
 go_wp2_with fail
 obtain⟨wo,hwo⟩:∃wo:World,wo=w2:=⟨_,rfl⟩
 rw[←hwo] at I2 ⊢
 clear hwo
 go_loopw [10,9] (fun v10 v9 wr=>∃(k:Nat) (A:Option Addr) (c:Nat),k≤m∧v10=.int .i64 k∧v9=.slice A (i+k) c∧Rpl w ⟨KA,kn,kc,CA,cn,cc⟩ R (.slice A (i+k) c) (i+k) (R.cs.take i++(L.map (verC (nx R.ver))).take k) wr) (fun v _ _=>m-(intOf v).toNat)
 case atStart=>exact⟨0,A2,c2,Nat.zero_le _,rfl,rfl,by simpa using I2.out⟩
 case round=>
  obtain⟨k,A,c,hk,rfl,rfl,I⟩:=hrel
  have J:=qD I
  clear I2
  have hNl:=I.b1.lt
  have hNl0:w.heap.size<wr.heap.size:=by omega
  by_cases hlt:k<m
  ·obtain⟨x,hx⟩:∃x,L[k]?=some x:=⟨_,List.getElem?_eq_getElem (by rw[←HM.out];exact hlt)⟩
   have HX:=qD hx
   have hbl:=I.bel
   have hlc:∀j v,(recC x)[j]?=some v→wr.cell? ⟨lb,k*5+j,none⟩=some v:=fun j v hv=>by
    rw[(HL.out.step hbl).cell,List.getElem?_toArray]
    exact flat_get recC_length hx hv
   obtain⟨xlo,xhi,xsh,xver,xju⟩:=x
   have g0:=hlc 0 _ rfl
   have g1:=hlc 1 _ rfl
   have g2:=hlc 2 _ rfl
   have g3:=hlc 3 _ rfl
   have g4:=hlc 4 _ rfl
   simp only[Nat.add_zero] at g0
   have q4:wr.cell? ⟨w.heap.size,4,none⟩=some (.int .i64 (nx R.ver)):=(blk_ro I.b0).2.2.2.2.1
   have K:=qD ((J.out.step ((Below.refl wr.heap.size wr).alloc (qL) (Obj.cells #[.string xlo,.string xhi,.int .i64 xsh,.int .i64 (nx R.ver),.bool xju] 81))).step ((Below.refl _ _).alloc (qL) (Obj.cells #[.string xlo,.string xhi,.int .i64 xsh,.int .i64 (nx R.ver),.bool xju] 81)))
   have HRx:Hid (Reads ((wr.alloc (.cells #[.string xlo,.string xhi,.int .i64 xsh,.int .i64 (nx R.ver),.bool xju] 81)).alloc (.cells #[.string xlo,.string xhi,.int .i64 xsh,.int .i64 (nx R.ver),.bool xju] 81)) (wr.heap.size+2) 5 (some ⟨wr.heap.size+1,0,none⟩) 1 (recC ⟨xlo,xhi,xsh,nx R.ver,xju⟩)):=by
    refine⟨rfl,fun _=>⟨_,rfl,by show wr.heap.size+1<wr.heap.size+2;omega,fun j u hu=>?_⟩⟩
    have:=news_at (wr.alloc (.cells #[.string xlo,.string xhi,.int .i64 xsh,.int .i64 (nx R.ver),.bool xju] 81)) 81 (recC ⟨xlo,xhi,xsh,nx R.ver,xju⟩) j u hu
    rw[size_alloc] at this
    exact this
   have hik:i+k≤82:=by omega
   have H1x:=qD (recC_one ⟨xlo,xhi,xsh,nx R.ver,xju⟩)
   clear hx hlc hbl I
   go_wp2_with (at_builtin;refine wpList_append_any _ rfl _ _ 25 rfl (w.heap.size+2) 81 j0 (aggC Ch.zero) 5 56 Tryz.underlying25 hj0 hy0 hy1 hy2 rfl (by decide) (.slice A (i+k) c) (i+k) (flat recC (R.cs.take i++(L.map (verC (nx R.ver))).take k)) rfl K.out.own (wr.heap.size+2) (some ⟨wr.heap.size+1,0,none⟩) 1 1 (recC ⟨xlo,xhi,xsh,nx R.ver,xju⟩) rfl HRx.out H1x.out (by unfold maxLen;omega) (by omega) (by simp;omega) ?_)
   intro v' w4 hown4 hg4 _
   have K4:Hid (Rpl w ⟨KA,kn,kc,CA,cn,cc⟩ R v' (i+(k+1)) (R.cs.take i++(L.map (verC (nx R.ver))).take (k+1)) w4):=by
    refine K.out.grow hg4 ?_
    rw[List.take_add_one,List.getElem?_map,HX.out,Option.map_some,Option.toList_some,←List.append_assoc,flat_snoc]
    exact hown4
   obtain⟨A4,c4,rfl,_⟩:=own_slice hown4
   clear K HRx H1x hown4 hg4 g0 g1 g2 g3 g4 q4
   go_wp2_with fail
   go_roundw
   case rel=>exact⟨k+1,A4,c4,by omega,by go_num,rfl,K4.out⟩
   case measure=>simp[intOf];omega
  ·obtain rfl:k=m:=by omega
   obtain⟨b,off,hA,hbw,_⟩:=H.out.cs.sr.el (by show 0<cn;omega)
   simp only at hA
   subst hA
   have q5:wr.cell? ⟨w.heap.size,5,none⟩=some (.slice (some ⟨b,off,none⟩) cn cc):=(blk_ro I.b0).2.2.2.2.2.1
   have e1:IntKind.i64.wrap ((i:Int)+(n:Int))=((i+n:Nat):Int):=by rw[IntKind.wrap_i64];omega
   have e2:(0:Int)≤(i:Int)+(n:Int):=by omega
   have e3:(i:Int)+(n:Int)≤(cn:Int):=by omega
   have e4:((i:Int)+(n:Int)).toNat=i+n:=by omega
   have e5:((i+n:Nat):Int)=(i:Int)+(n:Int):=by omega
   rw[e5] at e1
   obtain⟨A2',hA2,HR2⟩:∃A2':Addr,(if cc=i+n then some (⟨b,off,none⟩:Addr) else some ⟨b,off+(i+n)*5,none⟩)=some A2'∧Hid (Reads wr w.heap.size 5 (some A2') (cn-(i+n)) (flat recC (R.cs.drop (i+n)))):=by
    have hcut:=(HR.out.below I.bel).cut (k:=i+n) (by omega) hcc.out
    rw[flat_drop recC_length] at hcut
    by_cases hq:cc=i+n
    ·rw[if_pos hq] at hcut ⊢
     exact⟨_,rfl,hcut⟩
    ·rw[if_neg hq] at hcut ⊢
     exact⟨_,rfl,by rw[Hid];simpa[addr_add] using hcut⟩
   have HFL:=qD (flat_one recC_one (R.cs.drop (i+n)))
   have hszr:w.heap.size+2≤wr.heap.size:=by omega
   have hik:i+k≤82:=by omega
   clear I
   go_wp2_with (at_builtin;(first|rw[hA2]|skip);refine wpList_append_any _ rfl _ _ 25 rfl (w.heap.size+2) 81 j0 (aggC Ch.zero) 5 56 Tryz.underlying25 hj0 hy0 hy1 hy2 rfl (by decide) (.slice A (i+k) c) (i+k) (flat recC (R.cs.take i++(L.map (verC (nx R.ver))).take k)) rfl J.out.own w.heap.size (some A2') (cn-(i+n)) (cc-(i+n)) (flat recC (R.cs.drop (i+n))) rfl HR2.out HFL.out (by unfold maxLen;omega) (by omega) hszr ?_)
   intro v' w5 hown5 hg5 _
   have hML:(L.map (verC (nx R.ver))).take k=L.map (verC (nx R.ver)):=List.take_of_length_le (by rw[List.length_map,←HM.out];exact qL)
   have hlen:(repl R.cs i n (L.map (verC (nx R.ver)))).length=i+k+(cn-(i+n)):=by
    unfold repl
    rw[List.length_append,List.length_append,List.length_take,List.length_map,List.length_drop,←hn.out,←HM.out,Nat.min_eq_left (by omega)]
   rw[←flat_append,hML] at hown5
   have J5:Hid (Rpl w ⟨KA,kn,kc,some ⟨b,off,none⟩,cn,cc⟩ R v' (i+k+(cn-(i+n))) (repl R.cs i n (L.map (verC (nx R.ver)))) w5):=J.out.grow hg5 hown5
   obtain⟨A5,c5,rfl,_⟩:=own_slice hown5
   rw[←hlen] at J5 ⊢
   clear hown5 hg5 J HR2 HFL q5 hA2 e1 e2 e3 e4 e5
   generalize repl R.cs i n (L.map (verC (nx R.ver)))=Z at*
   obtain⟨q0,q1,q2,q3,q4,q5,qz⟩:=blk_ro J5.out.b0
   simp only at q1 q5
   have hge:=own_ge J5.out.own
   have G0:Hid (Blk (w5.setCell ⟨w.heap.size,5,none⟩ (.slice A5 Z.length c5)) w.heap.size 27 (rarr ⟨KA,kn,kc,A5,Z.length,c5⟩ R.nx)):=J5.out.b0.set_ 5 _
   have G1:Hid (Blk (w5.setCell ⟨w.heap.size,5,none⟩ (.slice A5 Z.length c5)) (w.heap.size+1) 27 (rarr RA.zero Ro.zero)):=J5.out.b1.far (by show w.heap.size+1≠w.heap.size;omega) _
   have G2:=qD (own_far J5.out.own (p:=⟨w.heap.size,5,none⟩) (fun e=>by have:=hge _ e;simp only at this;omega) (.slice A5 Z.length c5))
   have G4:Hid (Below w.heap.size w (w5.setCell ⟨w.heap.size,5,none⟩ (.slice A5 Z.length c5))):=J5.out.bel.setCell (qL) _
   clear hge J5 hlen hML
   go_upto_region 11 with fail
   clear q0 q1 q2 q3 q4 q5 qz
   generalize w5.setCell ⟨w.heap.size,5,none⟩ (.slice A5 Z.length c5)=w6 at*
   obtain⟨q0,q1,q2,q3,q4,q5,qz⟩:=blk_ro G0.out
   simp only at q1 q5
   obtain⟨r0,r1,r2,r3,r4,r5,rz⟩:=blk_ro G1.out
   have E0:=qD (G1.out.putR (a:=⟨KA,kn,kc,A5,Z.length,c5⟩) (R:=R.nx))
   have E1:Hid ((setR w6 (w.heap.size+1) ⟨KA,kn,kc,A5,Z.length,c5⟩ R.nx).ownsRow w.heap.size 81 5 (.slice A5 Z.length c5) Z.length (flat recC Z)):=
    own_mono (own_keep G2.out fun g hg=>heap_setR _ _ _ _ g (by have:=own_ge G2.out g hg;omega)) (by omega)
   have E2:Hid (Below w.heap.size w (setR w6 (w.heap.size+1) ⟨KA,kn,kc,A5,Z.length,c5⟩ R.nx)):=below_setR G4.out (by omega) _ _
   clear G0 G1 G2 G4
   go_wp2_with fail
   clear q0 q1 q2 q3 q4 q5 qz r0 r1 r2 r3 r4 r5 rz
   refine bodyPost_ret (results_ro rfl _ (w.heap.size+1) rfl _ ⟨KA,kn,kc,A5,Z.length,c5⟩ R.nx E0.out) rfl ?_
   exact⟨A5,c5,rfl,E1.out,E2.out⟩
theorem repl_len'{α:Type}{l:List α}{i n:Nat}{new:List α}:(repl l i n new).length≤l.length+new.length+l.length:=by unfold repl;simp;omega
theorem rgive_any(R:Ro)(a:RA)(key:ByteArray)(z:Int)(w:World)(h:RR w a R)(h80:R.cs.length≤80):Calls Tryz.prog 42 #[rval a R,.string key,.int .i64 z] w (RouOk (giveR R key z) w):=by
 obtain⟨KA,kn,kc,CA,cn,cc⟩:=a
 have H:=qD h
 clear h
 have B0:Hid (Blk ((w.alloc (.cells (rarr ⟨KA,kn,kc,CA,cn,cc⟩ R) 27)).alloc (.cells (rarr RA.zero Ro.zero) 27)) w.heap.size 27 (rarr ⟨KA,kn,kc,CA,cn,cc⟩ R)):=(Blk.new_at rfl).alloc _
 have B1:Hid (Blk ((w.alloc (.cells (rarr ⟨KA,kn,kc,CA,cn,cc⟩ R) 27)).alloc (.cells (rarr RA.zero Ro.zero) 27)) (w.heap.size+1) 27 (rarr RA.zero Ro.zero)):=Blk.new_at (by simp)
 have BE:Hid (Below w.heap.size w ((w.alloc (.cells (rarr ⟨KA,kn,kc,CA,cn,cc⟩ R) 27)).alloc (.cells (rarr RA.zero Ro.zero) 27))):=((Below.refl _ _).alloc (qL) _).alloc (by simp) _
 go_enter Tryz.func42,Tryz.ntmps42
 go_upto_region 1 with fail
 change (Code.region 1 _ _).wp _ _ _ ((w.alloc (.cells (rarr ⟨KA,kn,kc,CA,cn,cc⟩ R) 27)).alloc (.cells (rarr RA.zero Ro.zero) 27))
 generalize (w.alloc (.cells (rarr ⟨KA,kn,kc,CA,cn,cc⟩ R) 27)).alloc (.cells (rarr RA.zero Ro.zero) 27)=wa at*
 obtain⟨q0,q1,q2,q3,q4,q5,qz⟩:=blk_ro B0.out
 simp only at q1 q5
 go_wp2_with fail
 clear q0 q1 q2 q3 q4 q5 qz
 refine(rbegin_any R ⟨KA,kn,kc,CA,cn,cc⟩ key wa (H.out.step BE.out)).mono ?_
 rintro e w2 ⟨rfl,hb1⟩
 have F0:=qD (B0.out.step hb1)
 have F1:=qD (B1.out.step hb1)
 have FE:=qD (BE.out.step' hb1)
 clear hb1 B0 B1 BE
 rcases idxI_range (begB key) R.cs with⟨hf,_⟩|⟨i,c,hf,hic,hin,_⟩
 ·rw[hf]
  have HVE:Hid (giveR R key z=(Ro.zero,15)):=by unfold Hid giveR;rw[hf];rfl
  obtain⟨r0,r1,r2,r3,r4,r5,rz⟩:=blk_ro F1.out
  have E:=qD (change_err 15 F1.out (by omega) FE.out)
  go_wp2_with fail
  refine bodyPost_ret (results_ro_err rfl _ (w.heap.size+1) rfl _ rfl _ RA.zero Ro.zero E.out.2) rfl ?_
  exact E.out.1.eq HVE.out
 rw[hf]
 have HV:Hid (giveR R key z=if z<0∨8≤z then(Ro.zero,1) else if c.sh=z∨c.ju=true then(Ro.zero,23) else(⟨R.sp,R.ks,R.ha,R.ep,nx R.ver,touch (repl R.cs i 1 [⟨c.lo,c.hi,z,nx R.ver,c.ju⟩]) c.sh (nx R.ver)⟩,0)):=by
  unfold Hid giveR
  rw[if_neg (by omega),hf,Int.toNat_natCast,hic]
 have hn:Hid (cn=R.cs.length):=H.out.cs.ln
 have HIC:=qD hic
 clear hic hin hf
 obtain⟨q0,q1,q2,q3,q4,q5,qz⟩:=blk_ro F0.out
 simp only at q1 q5
 have hicn:i<cn:=by rw[hn.out];exact(List.getElem?_eq_some_iff.1 HIC.out).1
 have hnk:Hid (i+1≤R.cs.length):=(List.getElem?_eq_some_iff.1 HIC.out).1
 obtain⟨b,off,x,hA,hbl,hx,e0,e1,e2,e3,e4⟩:=H.out.cs.sr.at5 hicn
 rw[HIC.out] at hx
 injection hx with hx
 subst hx
 simp only at hA
 subst hA
 have bc:=fun o=>FE.out.cell (p:=⟨b,o,none⟩) hbl
 replace e0:=(bc _).trans e0
 replace e1:=(bc _).trans e1
 replace e2:=(bc _).trans e2
 replace e3:=(bc _).trans e3
 replace e4:=(bc _).trans e4
 clear bc
 obtain⟨clo,chi,csh,cver,cju⟩:=c
 simp only at e0 e1 e2 e3 e4 HV
 by_cases hz0:z<0
 ·have HVE:Hid (giveR R key z=(Ro.zero,1)):=by rw[Hid,HV.out,if_pos (.inl hz0)]
  obtain⟨r0,r1,r2,r3,r4,r5,rz⟩:=blk_ro F1.out
  have E:=qD (change_err 1 F1.out (by omega) FE.out)
  go_wp2_with fail
  refine bodyPost_ret (results_ro_err rfl _ (w.heap.size+1) rfl _ rfl _ RA.zero Ro.zero E.out.2) rfl ?_
  exact E.out.1.eq HVE.out
 by_cases hz8:8≤z
 ·have HVE:Hid (giveR R key z=(Ro.zero,1)):=by rw[Hid,HV.out,if_pos (.inr hz8)]
  obtain⟨r0,r1,r2,r3,r4,r5,rz⟩:=blk_ro F1.out
  have E:=qD (change_err 1 F1.out (by omega) FE.out)
  go_wp2_with fail
  refine bodyPost_ret (results_ro_err rfl _ (w.heap.size+1) rfl _ rfl _ RA.zero Ro.zero E.out.2) rfl ?_
  exact E.out.1.eq HVE.out
 cases hsz:(csh==z)
 rotate_left
 ·have HVE:Hid (giveR R key z=(Ro.zero,23)):=by rw[Hid,HV.out,if_neg (by omega),if_pos (.inl (by simpa using hsz))]
  go_upto_region 9 with fail
  clear q0 q1 q2 q3 q4 q5 qz e0 e1 e2 e3 e4
  have hU:w.heap.size+1<w2.heap.size:=F1.out.lt
  have P0:=qD (F0.out.alloc (.cells #[.string clo,.string chi,.int .i64 csh,.int .i64 cver,.bool cju] 81))
  have P1:=qD (F1.out.alloc (.cells #[.string clo,.string chi,.int .i64 csh,.int .i64 cver,.bool cju] 81))
  have PE:=qD (FE.out.alloc FE.out.size (Obj.cells #[.string clo,.string chi,.int .i64 csh,.int .i64 cver,.bool cju] 81))
  have PC:Hid (Blk (w2.alloc (.cells #[.string clo,.string chi,.int .i64 csh,.int .i64 cver,.bool cju] 81)) w2.heap.size 81 #[.string clo,.string chi,.int .i64 csh,.int .i64 cver,.bool cju]):=Blk.new_at rfl
  change (Code.region 9 _ _).wp _ _ _ (w2.alloc (.cells #[.string clo,.string chi,.int .i64 csh,.int .i64 cver,.bool cju] 81))
  generalize w2.alloc (.cells #[.string clo,.string chi,.int .i64 csh,.int .i64 cver,.bool cju] 81)=w3 at*
  generalize w2.heap.size=U at*
  have u0:=PC.out.cell 0
  have u1:=PC.out.cell 1
  have u2:=PC.out.cell 2
  have u3:=PC.out.cell 3
  have u4:=PC.out.cell 4
  simp at u0 u1 u2 u3 u4
  obtain⟨r0,r1,r2,r3,r4,r5,rz⟩:=blk_ro P1.out
  have E:=qD (change_err 23 P1.out (by omega) PE.out)
  go_wp2_with fail
  refine bodyPost_ret (results_ro_err rfl _ (w.heap.size+1) rfl _ rfl _ RA.zero Ro.zero E.out.2) rfl ?_
  exact E.out.1.eq HVE.out
 cases cju
 rotate_left
 ·have HVE:Hid (giveR R key z=(Ro.zero,23)):=by rw[Hid,HV.out,if_neg (by omega),if_pos (.inr rfl)]
  go_upto_region 9 with fail
  clear q0 q1 q2 q3 q4 q5 qz e0 e1 e2 e3 e4
  have hU:w.heap.size+1<w2.heap.size:=F1.out.lt
  have P0:=qD (F0.out.alloc (.cells #[.string clo,.string chi,.int .i64 csh,.int .i64 cver,.bool true] 81))
  have P1:=qD (F1.out.alloc (.cells #[.string clo,.string chi,.int .i64 csh,.int .i64 cver,.bool true] 81))
  have PE:=qD (FE.out.alloc FE.out.size (Obj.cells #[.string clo,.string chi,.int .i64 csh,.int .i64 cver,.bool true] 81))
  have PC:Hid (Blk (w2.alloc (.cells #[.string clo,.string chi,.int .i64 csh,.int .i64 cver,.bool true] 81)) w2.heap.size 81 #[.string clo,.string chi,.int .i64 csh,.int .i64 cver,.bool true]):=Blk.new_at rfl
  change (Code.region 9 _ _).wp _ _ _ (w2.alloc (.cells #[.string clo,.string chi,.int .i64 csh,.int .i64 cver,.bool true] 81))
  generalize w2.alloc (.cells #[.string clo,.string chi,.int .i64 csh,.int .i64 cver,.bool true] 81)=w3 at*
  generalize w2.heap.size=U at*
  have u0:=PC.out.cell 0
  have u1:=PC.out.cell 1
  have u2:=PC.out.cell 2
  have u3:=PC.out.cell 3
  have u4:=PC.out.cell 4
  simp at u0 u1 u2 u3 u4
  obtain⟨r0,r1,r2,r3,r4,r5,rz⟩:=blk_ro P1.out
  have E:=qD (change_err 23 P1.out (by omega) PE.out)
  go_wp2_with fail
  refine bodyPost_ret (results_ro_err rfl _ (w.heap.size+1) rfl _ rfl _ RA.zero Ro.zero E.out.2) rfl ?_
  exact E.out.1.eq HVE.out
 have HVS:Hid (giveR R key z=(⟨R.sp,R.ks,R.ha,R.ep,nx R.ver,touch (repl R.cs i 1 [⟨clo,chi,z,nx R.ver,false⟩]) csh (nx R.ver)⟩,0)):=by
  rw[Hid,HV.out,if_neg (by omega),if_neg (by simpa using hsz)]
 go_upto_region 11 with fail
 clear q0 q1 q2 q3 q4 q5 qz e0 e1 e2 e3 e4
 have hU:w.heap.size+1<w2.heap.size:=F1.out.lt
 have P0:=qD (F0.out.alloc (.cells #[.string clo,.string chi,.int .i64 z,.int .i64 cver,.bool false] 81))
 have P1:=qD (F1.out.alloc (.cells #[.string clo,.string chi,.int .i64 z,.int .i64 cver,.bool false] 81))
 have PE:=qD (FE.out.alloc FE.out.size (Obj.cells #[.string clo,.string chi,.int .i64 z,.int .i64 cver,.bool false] 81))
 have PC:Hid (Blk (w2.alloc (.cells #[.string clo,.string chi,.int .i64 z,.int .i64 cver,.bool false] 81)) w2.heap.size 81 #[.string clo,.string chi,.int .i64 z,.int .i64 cver,.bool false]):=Blk.new_at rfl
 change (Code.region 11 _ _).wp _ _ _ (w2.alloc (.cells #[.string clo,.string chi,.int .i64 z,.int .i64 cver,.bool false] 81))
 generalize w2.alloc (.cells #[.string clo,.string chi,.int .i64 z,.int .i64 cver,.bool false] 81)=w3 at*
 generalize w2.heap.size=U at*
 have u0:=PC.out.cell 0
 have u1:=PC.out.cell 1
 have u2:=PC.out.cell 2
 have u3:=PC.out.cell 3
 have u4:=PC.out.cell 4
 simp at u0 u1 u2 u3 u4
 obtain⟨q0,q1,q2,q3,q4,q5,qz⟩:=blk_ro P0.out
 simp only at q1 q5
 have AL:=qD ((Below.refl w3.heap.size w3).alloc (qL) (Obj.cells #[.string clo,.string chi,.int .i64 z,.int .i64 cver,.bool false] 81))
 have HLB:Hid (Blk (w3.alloc (.cells #[.string clo,.string chi,.int .i64 z,.int .i64 cver,.bool false] 81)) w3.heap.size 81 (flat recC [⟨clo,chi,z,cver,false⟩]).toArray):=Blk.new_at rfl
 have G0:=qD (P0.out.step AL.out)
 have G1:=qD (P1.out.step AL.out)
 have GE:=qD (PE.out.step' AL.out)
 have HRP:=qD (replace_any R ⟨KA,kn,kc,some ⟨b,off,none⟩,cn,cc⟩ i 1 w3.heap.size [⟨clo,chi,z,cver,false⟩] (i:Nat) (1:Nat) (w3.alloc (.cells #[.string clo,.string chi,.int .i64 z,.int .i64 cver,.bool false] 81)) (H.out.step GE.out) HLB.out hnk.out (by decide) (by simp) h80 rfl rfl)
 clear AL HLB
 go_wp2_with fail
 clear q0 q1 q2 q3 q4 q5 qz u0 u1 u2 u3 u4
 refine HRP.out.mono ?_
 rintro e w5 ⟨A5,c5,rfl,hown,hb5⟩
 have hG1:=G1.out.lt
 have hlen:(repl R.cs i 1 [⟨clo,chi,z,nx R.ver,false⟩]).length*56≤reach:=by
  have hrl:=repl_len' (l:=R.cs) (i:=i) (n:=1) (new:=[⟨clo,chi,z,nx R.ver,false⟩])
  unfold reach
  simp only[List.length_cons,List.length_nil] at hrl
  omega
 replace hown:w5.ownsRow (w3.alloc (.cells #[.string clo,.string chi,.int .i64 z,.int .i64 cver,.bool false] 81)).heap.size 81 5 (.slice A5 (repl R.cs i 1 [⟨clo,chi,z,nx R.ver,false⟩]).length c5) (repl R.cs i 1 [⟨clo,chi,z,nx R.ver,false⟩]).length (flat recC (repl R.cs i 1 [⟨clo,chi,z,nx R.ver,false⟩])):=hown
 have hvt:Vr w.heap.size (w3.alloc (.cells #[.string clo,.string chi,.int .i64 z,.int .i64 cver,.bool false] 81)).heap.size w5.heap.size w.heap.size w ⟨KA,kn,kc,A5,(repl R.cs i 1 [⟨clo,chi,z,nx R.ver,false⟩]).length,c5⟩ R.nx (repl R.cs i 1 [⟨clo,chi,z,nx R.ver,false⟩]) (setR w5 w.heap.size ⟨KA,kn,kc,A5,(repl R.cs i 1 [⟨clo,chi,z,nx R.ver,false⟩]).length,c5⟩ R.nx):=by
  have hge:=own_ge hown
  refine⟨(G0.out.step hb5).putR,own_keep hown fun g hg=>heap_setR _ _ _ _ g (by have:=hge g hg;omega),fun g hg=>own_lt hown hg,?_,rfl,hlen,below_setR (GE.out.step' hb5) (qL) _ _,⟨qL,by omega,hb5.size,by rw[size_setR];exact qL⟩⟩
  refine((H.out.ks.toB (GE.out.step' hb5)).lt).keep (by rw[size_setR];exact qL) fun b hF _=>⟨⟨⟨.inl hF.1,hF.2⟩,fun e=>by have:=hge b e;omega⟩,heap_setR _ _ _ _ b (by omega)⟩
 have V0:=qD hvt
 have V1:Hid (Blk (setR w5 w.heap.size ⟨KA,kn,kc,A5,(repl R.cs i 1 [⟨clo,chi,z,nx R.ver,false⟩]).length,c5⟩ R.nx) (w.heap.size+1) 27 (rarr RA.zero Ro.zero)):=(heap_setR _ _ _ _ _ (by omega)).trans (G1.out.step hb5)
 obtain⟨q0,q1,q2,q3,q4,q5,qz⟩:=blk_ro (G0.out.step hb5)
 simp only at q1 q5
 have HLO:Hid (w.heap.size+1<(w3.alloc (.cells #[.string clo,.string chi,.int .i64 z,.int .i64 cver,.bool false] 81)).heap.size):=hG1
 have HLN:=qD hlen
 obtain⟨S,hS⟩:∃S,S=R.nx:=⟨_,rfl⟩
 have HVT:Hid (giveR R key z=(⟨S.sp,S.ks,S.ha,S.ep,S.ver,touch (repl R.cs i 1 [⟨clo,chi,z,nx R.ver,false⟩]) csh S.ver⟩,0)):=by rw[Hid,HVS.out,hS];rfl
 have hsp:Hid (S.sp.size≤reach):=by rw[Hid,hS];exact H.out.sp
 rw[←hS] at V0 V1 ⊢
 clear hown hb5 G0 G1 GE HRP hvt hlen hG1 hS HVS HV
 rw[show List.map (verC (nx R.ver)) [(⟨clo,chi,z,cver,false⟩:Ch)]=[⟨clo,chi,z,nx R.ver,false⟩] from rfl]
 obtain⟨Lc,hLc⟩:∃Lc,Lc=repl R.cs i 1 [⟨clo,chi,z,nx R.ver,false⟩]:=⟨_,rfl⟩
 rw[←hLc] at V0 V1 HVT HLN ⊢
 clear hLc
 generalize (w3.alloc (.cells #[.string clo,.string chi,.int .i64 z,.int .i64 cver,.bool false] 81)).heap.size=lo at*
 go_upto_region 12 with fail
 clear q0 q1 q2 q3 q4 q5 qz
 change (Code.region 12 _ _).wp _ _ _ (setR w5 w.heap.size ⟨KA,kn,kc,A5,Lc.length,c5⟩ S)
 generalize setR w5 w.heap.size ⟨KA,kn,kc,A5,Lc.length,c5⟩ S=w6 at*
 obtain⟨ln5,hln5⟩:∃ln5,ln5=Lc.length:=⟨_,rfl⟩
 rw[←hln5] at V0 HLN
 have HL5:=qD hln5
 clear hln5
 have hln6:ln5≤140737488355328:=by have:=HLN.out;unfold reach at this;omega
 go_wp2_with fail
 go_loopw [11] (fun v wr=>∃k:Nat,k≤ln5∧v=.int .i64 k∧idxI (shB csh) Lc=idxFrom (shB csh) (Lc.drop k) k∧wr=w6) (fun v _=>ln5-(intOf v).toNat)
 case atStart=>exact⟨0,Nat.zero_le _,rfl,rfl,rfl⟩
 case round=>
  obtain⟨k,hk,rfl,ha,rfl⟩:=hrel
  have HA:=qD ha
  clear ha
  obtain⟨q0,q1,q2,q3,q4,q5,qz⟩:=blk_ro V0.out.b0
  simp only at q1 q5
  by_cases hlt:k<ln5
  ·obtain⟨d,hd⟩:∃d,Lc[k]?=some d:=⟨_,List.getElem?_eq_getElem (by rw[←HL5.out];exact hlt)⟩
   have HK:=qD hd
   have HX:=qD (idxFrom_at (p:=shB csh) hd)
   clear hd
   obtain⟨dlo,dhi,dsh,dver,dju⟩:=d
   obtain⟨g,hgA,hgl,hgh,hgc⟩:=V0.out.get HK.out
   simp only at hgA
   subst hgA
   have c2:=(hgc 2 _ rfl).1
   obtain⟨c3,z3⟩:=hgc 3 _ rfl
   clear hgc
   cases hq:(dsh==csh)
   ·have HF:Hid (idxI (shB csh) Lc=idxFrom (shB csh) (Lc.drop (k+1)) (k+1)):=by rw[Hid,HA.out,HX.out];unfold shB;rw[hq];rfl
    go_wp2_with fail
    go_roundw
    case rel=>exact⟨k+1,by omega,by go_num,HF.out,trivial⟩
    case measure=>simp[intOf];omega
   ·have HF:Hid (idxI (shB csh) Lc=(k:Int)):=by rw[Hid,HA.out,HX.out];unfold shB;rw[hq];rfl
    have HVU:Hid (giveR R key z=(⟨S.sp,S.ks,S.ha,S.ep,S.ver,Lc.set k ⟨dlo,dhi,dsh,S.ver,dju⟩⟩,0)):=by
     rw[Hid,HVT.out]
     unfold touch
     rw[HF.out,if_neg (by omega),Int.toNat_natCast,HK.out]
    have Z0:=qD (V0.out.put (g:=g) rfl HK.out (j:=3) (v:=.int .i64 S.ver) (c':=⟨dlo,dhi,dsh,S.ver,dju⟩) (by omega) rfl)
    have Z1:=qD (V1.out.far (p:=⟨g,k*5+3,none⟩) (by show w.heap.size+1≠g;have:=HLO.out;omega) (.int .i64 S.ver))
    go_upto_region 17 with fail
    clear q0 q1 q2 q3 q4 q5 qz c2 c3 z3 V0 V1
    generalize wr.setCell ⟨g,k*5+3,none⟩ (.int .i64 S.ver)=w8 at*
    obtain⟨q0,q1,q2,q3,q4,q5,qz⟩:=blk_ro Z0.out.b0
    simp only at q1 q5
    obtain⟨r0,r1,r2,r3,r4,r5,rz⟩:=blk_ro Z1.out
    have E:=qD (change_end (R:=⟨S.sp,S.ks,S.ha,S.ep,S.ver,Lc.set k ⟨dlo,dhi,dsh,S.ver,dju⟩⟩) (a:=⟨KA,kn,kc,some ⟨g,0,none⟩,ln5,c5⟩) rfl Z1.out (by omega) (by have:=HLO.out;omega) hsp.out (Z0.out.ks.keep (qL) fun b hF _=>⟨hF.1.1,rfl⟩) Z0.out.own Z0.out.ln Z0.out.sz Z0.out.bel)
    clear Z0 Z1
    go_wp2_with fail
    clear q0 q1 q2 q3 q4 q5 qz r0 r1 r2 r3 r4 r5 rz
    refine bodyPost_ret (results_ro_err rfl _ (w.heap.size+1) rfl _ rfl _ ⟨KA,kn,kc,some ⟨g,0,none⟩,ln5,c5⟩ _ E.out.2) rfl ?_
    exact E.out.1.eq HVU.out
  ·have HF:Hid (idxI (shB csh) Lc=-1):=by rw[Hid,HA.out];exact idxFrom_end (by rw[←HL5.out];omega)
   have HVU:Hid (giveR R key z=(⟨S.sp,S.ks,S.ha,S.ep,S.ver,Lc⟩,0)):=by
    rw[Hid,HVT.out]
    unfold touch
    rw[HF.out]
    rfl
   obtain⟨r0,r1,r2,r3,r4,r5,rz⟩:=blk_ro V1.out
   have E:=qD (change_end (R:=⟨S.sp,S.ks,S.ha,S.ep,S.ver,Lc⟩) (a:=⟨KA,kn,kc,A5,ln5,c5⟩) rfl V1.out (by omega) (by have:=HLO.out;omega) hsp.out (V0.out.ks.keep (qL) fun b hF _=>⟨hF.1.1,rfl⟩) V0.out.own V0.out.ln V0.out.sz V0.out.bel)
   clear V0 V1
   go_wp2_with fail
   clear q0 q1 q2 q3 q4 q5 qz r0 r1 r2 r3 r4 r5 rz
   refine bodyPost_ret (results_ro_err rfl _ (w.heap.size+1) rfl _ rfl _ ⟨KA,kn,kc,A5,ln5,c5⟩ _ E.out.2) rfl ?_
   exact E.out.1.eq HVU.out
def StoD(x:Val):Prop:=x.k=5∧∃f:Fld,x.d[0]?=some f∧f.s=idB
theorem StoD.id{x:Val}{f:Fld}(h:x.k=5)(hf:x.d[0]?=some f)(hs:f.s=idB):idV x=f.v:=by
 have h1:findI x idB=(0:Nat):=by
  unfold findI
  rw[h]
  cases hd:x.d with
  | nil=>rw[hd] at hf;cases hf
  | cons a r=>
   rw[hd] at hf
   simp only[List.getElem?_cons_zero,Option.some.injEq] at hf
   subst hf
   simp[findFrom,hs]
 unfold idV
 rw[getV_some h1 hf]
 rfl
def Key51Ok(F:Nat→Prop)(x:Val)(w:World)(e:Ending)(w':World):Prop:=∃d:VC,e=.returned d.val∧RV F w d (idV x)∧Below w.heap.size w w'
theorem rkey51_any{F:Nat→Prop}(x:Val)(c:VC)(w:World)(h:RV F w c x)(hs:StoD x):Calls Tryz.prog 48 #[c.val] w (Key51Ok F x w):=by
 obtain⟨hk,f,hf,hfs⟩:=hs
 have hid:=StoD.id hk hf hfs
 have ho:=h.open
 have hdn:0<c.dn:=by rw[ho.dn];exact(List.getElem?_eq_some_iff.1 hf).1
 obtain⟨b,off,hA,hF,hel⟩:=ho.da hdn
 obtain⟨hn,_,d,hv,hr⟩:=hel 0 f hf
 have hck:c.k=5:=ho.k.trans hk
 have hdz:=ho.dsz
 unfold reach at hdz
 have HR:=qD hr
 have HID:=qD hid
 simp only[Nat.zero_mul,Nat.add_zero] at hn hv
 rw[hfs] at hn
 clear h ho hel hr hid hF hf hfs hk
 obtain⟨ck,cn,ct,cLA,cln,clc,cDA,cdn,cdc⟩:=c
 simp only at hdn hA hck hdz
 subst hA hck
 have hdi:(0:Int)<(cdn:Int):=by omega
 have hne:((cdn:Int)==0)=false:=by simp;omega
 obtain⟨wa,hwa⟩:∃wa,(w.alloc (.cells #[.int .i64 5,.int .i64 cn,.string ct,.slice cLA cln clc,.slice (some ⟨b,off,none⟩) cdn cdc] 45)).alloc (.cells VC.zero.arr 45)=wa:=⟨_,rfl⟩
 have B0:Hid (Blk wa w.heap.size 45 #[.int .i64 5,.int .i64 cn,.string ct,.slice cLA cln clc,.slice (some ⟨b,off,none⟩) cdn cdc]):=by rw[←hwa];exact(Blk.new_at rfl).alloc _
 have B1:Hid (Blk wa (w.heap.size+1) 45 VC.zero.arr):=by rw[←hwa];exact Blk.new_at (by simp)
 have BE:Hid (Below w.heap.size w wa):=by rw[←hwa];exact((Below.refl _ _).alloc (qL) _).alloc (by simp) _
 have HWA:=qD hwa
 have n0:=(BE.out.cell (p:=⟨b,off,none⟩) (World.block_lt_of_cell? w _ hn)).trans hn
 obtain⟨y0,y1,y2,y3,y4⟩:=hv.keep (BE.out.block b hv.lt)
 clear hwa hn hv
 go_enter Tryz.func48,Tryz.ntmps48
 go_upto_region 1 with fail
 change Code.wp _ _ _ _ ((w.alloc (.cells #[.int .i64 5,.int .i64 cn,.string ct,.slice cLA cln clc,.slice (some ⟨b,off,none⟩) cdn cdc] 45)).alloc (.cells VC.zero.arr 45))
 rw[HWA.out]
 clear HWA
 have a0:wa.cell? ⟨w.heap.size,0,none⟩=some (.int .i64 5):=B0.out.cell 0
 have a4:wa.cell? ⟨w.heap.size,4,none⟩=some (.slice (some ⟨b,off,none⟩) cdn cdc):=B0.out.cell 4
 obtain⟨b0,b1,b2,b3,b4⟩:=VAt.of_blk B1.out
 have z:=B1.out.frozen
 have hidl:(idB.toList==(ByteArray.mk #[95,105,100]).toList)=true:=by kernel_rfl
 simp only[Nat.zero_add] at b0 b1 b2 b3 b4
 have E1:=qD (B1.out.putV d)
 have EE:=qD (below_setV BE.out (by omega:w.heap.size≤w.heap.size+1) 0 d)
 unfold idB at n0
 go_wp2_with fail
 exact bodyPost_ret (results_val rfl _ (w.heap.size+1) 0 rfl (setV wa (w.heap.size+1) 0 d) d (VAt.of_blk E1.out)) rfl ⟨d,rfl,by rw[HID.out];exact HR.out,EE.out⟩
def Put51Ok(F:Nat→Prop)(x:Wt)(w:World)(e:Ending)(w':World):Prop:=∃wc:WC,e=.returned (.agg (recC78 wc).toArray)∧RW1 F w wc x∧Below w.heap.size w w'
theorem rput51_any{F:Nat→Prop}(M:Mv)(ma:MA)(x:Val)(c:VC)(w:World)(hsp:M.sp.size≤reach)(h:RV F w c x)(hs:StoD x):Calls Tryz.prog 39 #[mval ma M,c.val] w (Put51Ok F (putW M.sp x) w):=by
 have HSP:=qD hsp
 have HX:=qD h
 obtain⟨wb,hwb⟩:∃wb,(((w.alloc (.cells (marr ma M) 35)).alloc (.cells c.arr 45)).alloc (.cells (recC78 WC.zero).toArray 67))=wb:=⟨_,rfl⟩
 have BM:Hid (Blk wb w.heap.size 35 (marr ma M)):=by rw[←hwb];exact((Blk.new_at rfl).alloc _).alloc _
 have BV:Hid (Blk wb (w.heap.size+1) 45 c.arr):=by rw[←hwb];exact(Blk.new_at (by simp)).alloc _
 have B4:Hid (Blk wb (w.heap.size+2) 67 (recC78 WC.zero).toArray):=by rw[←hwb];exact Blk.new_at (by simp)
 have BE:Hid (Below w.heap.size w wb):=by rw[←hwb];exact(((Below.refl _ _).alloc (qL) _).alloc (by simp) _).alloc (by simp;omega) _
 have hN:w.heap.size+2<wb.heap.size:=B4.out.lt
 have HC:Hid (∀w2,Below wb.heap.size wb w2→Calls Tryz.prog 48 #[c.val] w2 fun e w'=>∃d:VC,e=.returned d.val∧RV F w d (idV x)∧Below w2.heap.size w2 w'):=qD fun w2 hb=>by
  refine(rkey51_any (F:=fun b=>F b∧b<w.heap.size) x c w2 ((h.lt).step (BE.out.step' hb)) hs).mono ?_
  rintro e w3 ⟨d,rfl,hr,hb3⟩
  exact⟨d,rfl,hr.keepG fun b hb4 _=>⟨hb4.1,((BE.out.step' hb).block b hb4.2).symm⟩,hb3⟩
 have HWB:=qD hwb
 clear hsp h hwb hs
 go_enter Tryz.func39,Tryz.ntmps39
 go_upto_region 1 with fail
 change Code.wp _ _ _ _ (((w.alloc (.cells (marr ma M) 35)).alloc (.cells c.arr 45)).alloc (.cells (recC78 WC.zero).toArray 67))
 rw[HWB.out]
 clear HWB
 have m0:wb.cell? ⟨w.heap.size,0,none⟩=some (.string M.sp):=BM.out.cell 0
 have B:Hid (Below wb.heap.size wb wb.drew):=qD ((Below.refl wb.heap.size wb).drew)
 have KSS:Hid (∀w1:World,Below wb.heap.size wb w1→(fun w'=>w'.cell? ⟨w.heap.size,0,none⟩=some (.string M.sp)∧Blk w' (w.heap.size+1) 45 c.arr) w1):=qD fun w1 hb=>⟨(hb.cell (p:=⟨w.heap.size,0,none⟩) BM.out.lt).trans m0,BV.out.step hb⟩
 have KST:Hid (∀w1:World,Below wb.heap.size wb w1→∀cs:Array Value,(fun w'=>w'.cell? ⟨w.heap.size,0,none⟩=some (.string M.sp)∧Blk w' (w.heap.size+1) 45 c.arr) (w1.setRow (w.heap.size+2) cs)):=qD fun w1 hb cs=>⟨(cell_setRow_other _ _ _ _ (by dsimp only;omega)).trans (KSS.out w1 hb).1,Blk.row_far (BV.out.step hb) (by omega) cs⟩
 refine wp_region_noPanic ?_
 refine wp_region_held_drew (S:=(fun w'=>w'.cell? ⟨w.heap.size,0,none⟩=some (.string M.sp)∧Blk w' (w.heap.size+1) 45 c.arr)) (by kernel_rfl) ?_ (fun hHeld=>?_)
 ·(try dsimp only);exact KSS.out _ B.out
 generalize wb.drew=v0 at*
 refine rU 0 rfl ?_
 try go_frame
 refine rU 1 rfl ?_
 try go_frame
 refine rT (v:=.agg c.arr) 2 rfl ?_ ?_
 ·intro w' hSw;exact exec_row rfl rfl hSw.2 Tryz.underlying45 rfl (by rw[sizeV];rfl)
 try go_frame
 refine rT (v:=.agg c.arr) 4 rfl ?_ ?_
 ·intro w' hSw;exact exec_row rfl rfl hSw.2 Tryz.underlying45 rfl (by rw[sizeV];rfl)
 try go_frame
 refine rY 3 rfl fun K hK=>?_
 go_simp
 refine(HC.out _ B.out).mono ?_
 rintro e3 y1 ⟨d,rfl,hr,hb⟩
 have DR:=qD hr
 replace B:=qD (B.out.step' hb)
 clear hb hr
 (try go_wp2_with fail)
 clear hHeld
 refine hK.out _ _ ?_ fun hHeld=>?_
 ·(try dsimp only);exact KSS.out _ B.out
 clear hK K
 try go_frame
 refine rT (v:=.agg (recC78 (⟨2,M.sp,d,c,true⟩:WC)).toArray) 5 rfl ?_ ?_
 ·intro w' hSw;exact exec_built rfl (by kernel_rfl)
 try go_frame
 refine rY 6 rfl fun K hK=>?_
 refine wp_store_row 67 _ _ rfl (w.heap.size+2) (recC78 (⟨2,M.sp,d,c,true⟩:WC)).toArray rfl rfl 67 (recC78 WC.zero).toArray (B4.out.step B.out) (by rw[sizeW];rfl) rfl (recC78_all _) ?_
 clear hHeld
 refine hK.out _ _ ?_ fun hHeld=>?_
 ·(try dsimp only);exact KST.out _ B.out _
 clear hK K
 try go_frame
 refine rD ?_ _
 refine NoPanic.normal ?_
 all_goals
  go_wp2_with fail
  refine bodyPost_ret (results_write rfl _ _ (w.heap.size+2) (⟨2,M.sp,d,c,true⟩:WC) rfl (Blk.row (B4.out.step B.out) _)) rfl ⟨_,rfl,⟨rfl,rfl,rfl,HSP.out,DR.out,HX.out⟩,?_⟩
  exact below_row (BE.out.step' B.out) (by omega) _
theorem rstart51_any(R:Ro)(a:RA)(lo:ByteArray)(t:Int)(w:World)(h:RR w a R):Calls Tryz.prog 7 #[rval a R,.string lo,.int .i64 t] w
 fun e w'=>e=.returned (.tuple #[mval MA.zero (startR R lo t).1,.int .i64 (startR R lo t).2])∧Below w.heap.size w w':=by
 obtain⟨KA,kn,kc,CA,cn,cc⟩:=a
 have H:=qD h.cs
 have hz:=h.cs.sz
 unfold reach at hz
 simp only at hz
 have hcn:Hid (cn=R.cs.length):=h.cs.ln
 clear h
 obtain⟨wa,hwa⟩:∃wa,(w.alloc (.cells (rarr ⟨KA,kn,kc,CA,cn,cc⟩ R) 27)).alloc (.cells (marr MA.zero Mv.zero) 35)=wa:=⟨_,rfl⟩
 have B0:Hid (Blk wa w.heap.size 27 (rarr ⟨KA,kn,kc,CA,cn,cc⟩ R)):=by rw[←hwa];exact(Blk.new_at rfl).alloc _
 have B2:Hid (Blk wa (w.heap.size+1) 35 (marr MA.zero Mv.zero)):=by rw[←hwa];exact Blk.new_at (by simp)
 have BE:Hid (Below w.heap.size w wa):=by rw[←hwa];exact((Below.refl _ _).alloc (qL) _).alloc (by simp) _
 have HWA:=qD hwa
 clear hwa
 go_enter Tryz.func7,Tryz.ntmps7
 go_upto_region 1 with fail
 change Code.wp _ _ _ _ ((w.alloc (.cells (rarr ⟨KA,kn,kc,CA,cn,cc⟩ R) 27)).alloc (.cells (marr MA.zero Mv.zero) 35))
 rw[HWA.out]
 clear HWA
 go_wp2_with fail
 go_loopw [8,9] (fun v8 _ wr=>∃i:Nat,i≤cn∧v8=.int .i64 i∧(∀(j:Nat) (c:Ch),j<i→R.cs[j]?=some c→begB lo c=false)∧Below wa.heap.size wa wr) (fun v8 _ _=>cn-(intOf v8).toNat)
 case atStart=>exact⟨0,Nat.zero_le _,rfl,fun j c hj=>absurd hj (by omega),Below.refl _ _⟩
 case round=>
  obtain⟨i,hi,rfl,hno,hbel⟩:=hrel
  have HN:=qD hno
  have HB:=qD hbel
  have F0:=qD (B0.out.step hbel)
  have F2:=qD (B2.out.step hbel)
  have FE:=qD (BE.out.step' hbel)
  have q5:wr.cell? ⟨w.heap.size,5,none⟩=some (.slice CA cn cc):=F0.out.cell 5
  clear hno hbel
  by_cases hlt:i<cn
  rotate_left
  ·have hin:i=cn:=by omega
   subst hin
   have HV:Hid (startR R lo t=(Mv.zero,15)):=by
    rcases idxI_range (begB lo) R.cs with⟨hf,_⟩|⟨j,c,hf,hjc,hin,_⟩
    ·unfold Hid startR;rw[hf];rfl
    ·have:=HN.out j c (by rw[hcn.out];exact(List.getElem?_eq_some_iff.1 hjc).1) hjc
     rw[hin] at this
     cases this
   go_wp2_with (refine wpList_store_row rfl 35 _ _ rfl (w.heap.size+1) (marr MA.zero Mv.zero) rfl rfl 35 _ F2.out (by rw[sizeM];rfl) rfl (marr_all _ _) ?_)
   refine bodyPost_ret (results_mv rfl _ (w.heap.size+1) rfl (.int .i64 15) rfl _ MA.zero Mv.zero (Blk.row F2.out _)) rfl ?_
   exact⟨by rw[HV.out],below_row FE.out (by omega) _⟩
  obtain⟨b,off,x,hA,hbl,hx,e0,e1,e2,e3,e4⟩:=H.out.sr.at5 hlt
  subst hA
  obtain⟨clo,chi,csh,cver,cju⟩:=x
  have j0:=(FE.out.cell (p:=⟨b,off+i*5,none⟩) hbl).trans e0
  have j1:=(FE.out.cell (p:=⟨b,off+i*5+1,none⟩) hbl).trans e1
  have j2:=(FE.out.cell (p:=⟨b,off+i*5+2,none⟩) hbl).trans e2
  have j3:=(FE.out.cell (p:=⟨b,off+i*5+3,none⟩) hbl).trans e3
  have j4:=(FE.out.cell (p:=⟨b,off+i*5+4,none⟩) hbl).trans e4
  simp only at j0 j1 j2 j3 j4
  have i0:(0:Int)≤(i:Int):=by omega
  have i1:(i:Int)<(cn:Int):=by omega
  have HX:=qD hx
  clear e0 e1 e2 e3 e4 hx
  go_upto_region 5 with fail
  change Code.wp _ _ _ _ (wr.alloc (.cells (recC ⟨clo,chi,csh,cver,cju⟩).toArray 81))
  have G0:=qD (F0.out.alloc (.cells (recC ⟨clo,chi,csh,cver,cju⟩).toArray 81))
  have G2:=qD (F2.out.alloc (.cells (recC ⟨clo,chi,csh,cver,cju⟩).toArray 81))
  have GC:Hid (Blk (wr.alloc (.cells (recC ⟨clo,chi,csh,cver,cju⟩).toArray 81)) wr.heap.size 81 (recC ⟨clo,chi,csh,cver,cju⟩).toArray):=Blk.new_at rfl
  have GE:=qD (FE.out.alloc FE.out.size (Obj.cells (recC ⟨clo,chi,csh,cver,cju⟩).toArray 81))
  have GB:=qD (HB.out.alloc HB.out.size (Obj.cells (recC ⟨clo,chi,csh,cver,cju⟩).toArray 81))
  clear j0 j1 j2 j3 j4 q5 F0 F2 FE HB
  generalize wr.alloc (.cells (recC ⟨clo,chi,csh,cver,cju⟩).toArray 81)=wf at*
  generalize wr.heap.size=gc at*
  have q0:wf.cell? ⟨w.heap.size,0,none⟩=some (.string R.sp):=G0.out.cell 0
  have k0:wf.cell? ⟨gc,0,none⟩=some (.string clo):=GC.out.cell 0
  have k1:wf.cell? ⟨gc,1,none⟩=some (.string chi):=GC.out.cell 1
  have k2:wf.cell? ⟨gc,2,none⟩=some (.int .i64 csh):=GC.out.cell 2
  have k4:wf.cell? ⟨gc,4,none⟩=some (.bool cju):=GC.out.cell 4
  cases hlo:(clo.toList==lo.toList)
  ·have HS:Hid (∀(j:Nat) (c:Ch),j<i+1→R.cs[j]?=some c→begB lo c=false):=qD fun j c hj hc=>by
    rcases Nat.lt_or_ge j i with h|h
    ·exact HN.out j c h hc
    ·have:j=i:=by omega
     subst this
     rw[HX.out] at hc
     injection hc with hc
     subst hc
     exact hlo
   go_wp2_with fail
   go_roundw
   case rel=>exact⟨i+1,by omega,by go_num,HS.out,GB.out⟩
   case measure=>simp[intOf];omega
  have HV:Hid (startR R lo t=if t<0∨8≤t then(Mv.zero,1) else if csh=t∨cju=true then(Mv.zero,23) else(⟨R.sp,clo,chi,csh,t,1,[],[]⟩,0)):=by
   have hb:begB lo (⟨clo,chi,csh,cver,cju⟩:Ch)=true:=hlo
   rcases idxI_range (begB lo) R.cs with⟨_,hf⟩|⟨j,c,hf,hjc,hin,hbe⟩
   ·have:=hf _ (List.mem_of_getElem? HX.out)
    rw[hb] at this
    cases this
   ·have hji:j=i:=by
     rcases Nat.lt_trichotomy j i with h|h|h
     ·have:=HN.out j c h hjc
      rw[hin] at this
      cases this
     ·exact h
     ·have:=hbe i h _ HX.out
      rw[hb] at this
      cases this
    subst hji
    rw[HX.out] at hjc
    injection hjc with hjc
    subst hjc
    unfold Hid startR
    rw[if_neg (by omega),hf,Int.toNat_natCast,HX.out]
  by_cases hz0:t<0
  ·have HVE:Hid (startR R lo t=(Mv.zero,1)):=by rw[Hid,HV.out,if_pos (.inl hz0)]
   go_wp2_with (refine wpList_store_row rfl 35 _ _ rfl (w.heap.size+1) (marr MA.zero Mv.zero) rfl rfl 35 _ G2.out (by rw[sizeM];rfl) rfl (marr_all _ _) ?_)
   refine bodyPost_ret (results_mv rfl _ (w.heap.size+1) rfl (.int .i64 1) rfl _ MA.zero Mv.zero (Blk.row G2.out _)) rfl ?_
   exact⟨by rw[HVE.out],below_row GE.out (by omega) _⟩
  by_cases hz8:8≤t
  ·have HVE:Hid (startR R lo t=(Mv.zero,1)):=by rw[Hid,HV.out,if_pos (.inr hz8)]
   go_wp2_with (refine wpList_store_row rfl 35 _ _ rfl (w.heap.size+1) (marr MA.zero Mv.zero) rfl rfl 35 _ G2.out (by rw[sizeM];rfl) rfl (marr_all _ _) ?_)
   refine bodyPost_ret (results_mv rfl _ (w.heap.size+1) rfl (.int .i64 1) rfl _ MA.zero Mv.zero (Blk.row G2.out _)) rfl ?_
   exact⟨by rw[HVE.out],below_row GE.out (by omega) _⟩
  have HV2:Hid (startR R lo t=if csh=t∨cju=true then(Mv.zero,23) else(⟨R.sp,clo,chi,csh,t,1,[],[]⟩,0)):=by rw[Hid,HV.out,if_neg (by omega)]
  clear HV
  cases hsz:(csh==t)
  rotate_left
  ·have HVE:Hid (startR R lo t=(Mv.zero,23)):=by rw[Hid,HV2.out,if_pos (.inl (by simpa using hsz))]
   go_wp2_with (refine wpList_store_row rfl 35 _ _ rfl (w.heap.size+1) (marr MA.zero Mv.zero) rfl rfl 35 _ G2.out (by rw[sizeM];rfl) rfl (marr_all _ _) ?_)
   refine bodyPost_ret (results_mv rfl _ (w.heap.size+1) rfl (.int .i64 23) rfl _ MA.zero Mv.zero (Blk.row G2.out _)) rfl ?_
   exact⟨by rw[HVE.out],below_row GE.out (by omega) _⟩
  cases cju
  rotate_left
  ·have HVE:Hid (startR R lo t=(Mv.zero,23)):=by rw[Hid,HV2.out,if_pos (.inr rfl)]
   go_wp2_with (refine wpList_store_row rfl 35 _ _ rfl (w.heap.size+1) (marr MA.zero Mv.zero) rfl rfl 35 _ G2.out (by rw[sizeM];rfl) rfl (marr_all _ _) ?_)
   refine bodyPost_ret (results_mv rfl _ (w.heap.size+1) rfl (.int .i64 23) rfl _ MA.zero Mv.zero (Blk.row G2.out _)) rfl ?_
   exact⟨by rw[HVE.out],below_row GE.out (by omega) _⟩
  have HVE:Hid (startR R lo t=(⟨R.sp,clo,chi,csh,t,1,[],[]⟩,0)):=by rw[Hid,HV2.out,if_neg (by simpa using hsz)]
  go_wp2_with (refine wpList_store_row rfl 35 _ _ rfl (w.heap.size+1) (marr MA.zero ⟨R.sp,clo,chi,csh,t,1,[],[]⟩) rfl rfl 35 _ G2.out (by rw[sizeM];rfl) rfl (marr_all _ _) ?_)
  refine bodyPost_ret (results_mv rfl _ (w.heap.size+1) rfl (.int .i64 0) rfl _ MA.zero ⟨R.sp,clo,chi,csh,t,1,[],[]⟩ (Blk.row G2.out _)) rfl ?_
  exact⟨by rw[HVE.out],below_row GE.out (by omega) _⟩
noncomputable def copyM(M:Mv)(R:Ro)(L:List Val):Mv×Int:=if M.st=1 then(⟨M.sp,M.lo,M.hi,M.fr,M.tt,2,copyL R M.sp M.lo M.hi L,M.ch⟩,0) else(Mv.zero,23)
noncomputable def noteM(M:Mv)(R:Ro)(x:Wx):Mv×Int:=if M.st=2 then(⟨M.sp,M.lo,M.hi,M.fr,M.tt,2,M.cp,M.ch++noteX R M.sp M.lo M.hi x⟩,0) else(Mv.zero,23)
def loadM2(M:Mv):Mv×List Wt×Int:=if M.st=2 then(⟨M.sp,M.lo,M.hi,M.fr,M.tt,2,[],[]⟩,M.cp++M.ch,0) else(Mv.zero,[],23)
def commitM(M:Mv)(R:Ro):Mv×Ro×Int:=if M.st=2∧M.cp=[]∧M.ch=[] then(⟨M.sp,M.lo,M.hi,M.fr,M.tt,4,[],[]⟩,(giveR R M.lo M.tt).1,0) else(Mv.zero,Ro.zero,23)
def abortM(M:Mv):Mv×Int:=if M.st=4∨M.st=5 then(Mv.zero,23) else(⟨M.sp,M.lo,M.hi,M.fr,M.tt,5,[],[]⟩,0)
def MvR(r:Mv×Int)(w:World)(e:Ending)(w':World):Prop:=∃mb:MA,e=.returned (.tuple #[mval mb r.1,.int .i64 r.2])∧MR w' mb r.1∧Below w.heap.size w w'
def LdR(r:Mv×List Wt×Int)(w:World)(e:Ending)(w':World):Prop:=∃(mb:MA) (A:Option Addr) (n c:Nat) (ps:List PW),e=.returned (.tuple #[mval mb r.1,.slice A n c,.int .i64 r.2.2])∧MR w' mb r.1∧ps.map Prod.snd=r.2.1∧WS (fun _=>True) w' A n c ps∧Below w.heap.size w w'
def CmR(r:Mv×Ro×Int)(w:World)(e:Ending)(w':World):Prop:=∃(mb:MA) (rb:RA),e=.returned (.tuple #[mval mb r.1,rval rb r.2.1,.int .i64 r.2.2])∧MR w' mb r.1∧RR w' rb r.2.1∧Below w.heap.size w w'
def OrR(l:List Wt)(w:World)(e:Ending)(w':World):Prop:=∃(A:Option Addr) (n c:Nat) (ps:List PW),e=.returned (.slice A n c)∧StW l (ps.map Prod.snd)∧WS (fun _=>True) w' A n c ps∧Below w.heap.size w w'
theorem WS.len0{F:Nat→Prop}{w:World}{A:Option Addr}{n c:Nat}{ps:List PW}(h:WS F w A n c ps):n=0↔ps.map Prod.snd=[]:=by
 rw[h.sr.ln,List.map_eq_nil_iff,List.length_eq_zero_iff]
theorem pcopy(M:Mv)(ma:MA)(R:Ro)(a:RA)(ps:List PV)(DA:Option Addr)(dn dc:Nat)(w:World)(hT:Tabs w)(h:RR w a R)(h8:R.ks.length≤8)(hd:SL (fun _=>True) w DA dn dc ps)(hz:dn≤1000)(hm:MR w ma M)(h1:M.st=1→M.cp=[]∧M.ch=[]∧ma=MA.zero):
 Calls Tryz.prog 14 #[mval ma M,rval a R,.slice DA dn dc] w (MvR (copyM M R (ps.map Prod.snd)) w):=by
 by_cases hs:M.st=1
 ·obtain⟨hc,hh,rfl⟩:=h1 hs
  refine(mgcopy_any M R a ps DA dn dc w hT h h8 hd hz hm.sp hs hc hh).mono ?_
  rintro e w' ⟨mb,rfl,hr,hb⟩
  unfold MvR copyM
  rw[if_pos hs,hh]
  exact⟨mb,rfl,hr,hb⟩
 ·refine(mgcopy_ref M ma R a DA dn dc w hs).mono ?_
  rintro e w' ⟨rfl,hb⟩
  unfold MvR copyM
  rw[if_neg hs]
  exact⟨MA.zero,rfl,MR.zero,hb⟩
theorem pnote(M:Mv)(ma:MA)(R:Ro)(a:RA)(cs:List Value)(x:Wx)(w:World)(hT:Tabs w)(h:RR w a R)(h8:R.ks.length≤8)(hm:MR w ma M)(hx:IsW w cs x)(hc:M.cp.length≤1000)(hh:M.ch.length≤900):
 Calls Tryz.prog 20 #[mval ma M,rval a R,.agg cs.toArray] w (MvR (noteM M R x) w):=by
 by_cases hs:M.st=2
 ·have e:noteM M R x=(⟨M.sp,M.lo,M.hi,M.fr,M.tt,2,M.cp,M.ch++noteX R M.sp M.lo M.hi x⟩,0):=by unfold noteM;rw[if_pos hs]
  by_cases hp:x.sp=M.sp∧(x.kd=2∨x.kd=3)
  ·refine(mgnote_any M ma R a cs x w hT h h8 hm hx hs hp.1 hp.2 hc hh).mono ?_
   rintro e w' ⟨mb,rfl,hr,hb⟩
   unfold MvR noteM
   rw[if_pos hs]
   exact⟨mb,rfl,hr,hb⟩
  ·have hn:noteX R M.sp M.lo M.hi x=[]:=by
    unfold noteX noteL
    by_cases hsp:x.sp=M.sp
    ·rw[if_pos hsp,if_neg (fun h=>hp ⟨hsp,.inl h.1⟩),if_neg (fun h=>hp ⟨hsp,.inr h⟩)]
    ·rw[if_neg hsp]
   refine(mgnote_same M ma R a cs x w hT h h8 hm hx hs (by
    by_cases hsp:x.sp=M.sp
    ·exact .inr ⟨hsp,fun h=>hp ⟨hsp,.inl h⟩,fun h=>hp ⟨hsp,.inr h⟩⟩
    ·exact .inl hsp) hc hh).mono ?_
   rintro e w' ⟨mb,rfl,hr,hb⟩
   unfold MvR noteM
   rw[if_pos hs,hn,List.append_nil]
   exact⟨mb,rfl,hr,hb⟩
 ·refine(mgnote_ref M ma R a cs w hs).mono ?_
  rintro e w' ⟨rfl,hb⟩
  unfold MvR noteM
  rw[if_neg hs]
  exact⟨MA.zero,rfl,MR.zero,hb⟩
theorem pload(M:Mv)(ma:MA)(w:World)(hm:MR w ma M)(hc:M.cp.length≤1000)(hh:M.ch.length≤1000):Calls Tryz.prog 15 #[mval ma M] w (LdR (loadM2 M) w):=by
 by_cases hs:M.st=2
 ·refine(load_any M ma w hm hs hc hh).mono ?_
  rintro e w' ⟨A,n,c,ps,rfl,he,hw,hb⟩
  unfold LdR loadM2
  rw[if_pos hs]
  exact⟨MA.zero,A,n,c,ps,by rw[hs],⟨hm.sp,⟨[],rfl,WS.nil⟩,⟨[],rfl,WS.nil⟩⟩,he,hw.mono fun _ _=>trivial,hb⟩
 ·refine(load_ref M ma w hs).mono ?_
  rintro e w' ⟨rfl,hb⟩
  unfold LdR loadM2
  rw[if_neg hs]
  exact⟨MA.zero,none,0,0,[],rfl,MR.zero,rfl,WS.nil,hb⟩
theorem pcommit(M:Mv)(ma:MA)(R:Ro)(a:RA)(w:World)(h:RR w a R)(hm:MR w ma M)(hg:M.st=2→(giveR R M.lo M.tt).2=0)(hp:M.st=2→∀q∈(giveR R M.lo M.tt).1.ks,pathB q.p=true):
 Calls Tryz.prog 23 #[mval ma M,rval a R] w (CmR (commitM M R) w):=by
 have ref:∀{e:Ending} {w':World},¬(M.st=2∧M.cp=[]∧M.ch=[])→(e=.returned (.tuple #[mval MA.zero Mv.zero,rval RA.zero Ro.zero,.int .i64 23])∧Below w.heap.size w w')→CmR (commitM M R) w e w':=by
  rintro e w' hn ⟨rfl,hb⟩
  unfold CmR commitM
  rw[if_neg hn]
  exact⟨MA.zero,RA.zero,rfl,MR.zero,RR.zero,hb⟩
 obtain⟨ps,hps,P⟩:=hm.cp
 obtain⟨qs,hqs,Q⟩:=hm.ch
 have c0:ma.cn=0↔M.cp=[]:=by rw[←hps];exact P.len0
 have h0:ma.hn=0↔M.ch=[]:=by rw[←hqs];exact Q.len0
 by_cases hs:M.st=2
 ·by_cases hc:ma.cn=0
  ·by_cases hh:ma.hn=0
   ·refine(commit_rr M ma R a w h hs hc hh (hg hs) (hp hs)).mono ?_
    rintro e w' ⟨a1,rfl,hr,hb⟩
    unfold CmR commitM
    rw[if_pos ⟨hs,c0.1 hc,h0.1 hh⟩]
    exact⟨MA.zero,a1,rfl,⟨hm.sp,⟨[],rfl,WS.nil⟩,⟨[],rfl,WS.nil⟩⟩,hr,hb⟩
   ·exact(commit_refH M ma R a w hs hc (by omega)).mono fun e w' h=>ref (fun h1=>hh (h0.2 h1.2.2)) h
  ·exact(commit_refC M ma R a w hs (by omega)).mono fun e w' h=>ref (fun h1=>hc (c0.2 h1.2.1)) h
 ·exact(commit_ref M ma R a w hs).mono fun e w' h=>ref (fun h1=>hs h1.1) h
theorem pabort(M:Mv)(ma:MA)(w:World)(hm:MR w ma M):Calls Tryz.prog 26 #[mval ma M] w (MvR (abortM M) w):=by
 by_cases hs:M.st=4∨M.st=5
 ·refine(abort_ref M ma w hs).mono ?_
  rintro e w' ⟨rfl,hb⟩
  unfold MvR abortM
  rw[if_pos hs]
  exact⟨MA.zero,rfl,MR.zero,hb⟩
 ·refine(abort_any M ma w (fun h=>hs (.inl h)) (fun h=>hs (.inr h))).mono ?_
  rintro e w' ⟨rfl,hb⟩
  unfold MvR abortM
  rw[if_neg hs]
  exact⟨MA.zero,rfl,⟨hm.sp,⟨[],rfl,WS.nil⟩,⟨[],rfl,WS.nil⟩⟩,hb⟩
theorem rabort_any(M:Mv)(ma:MA)(w:World)(h4:M.st≠4)(h5:M.st≠5):Calls Tryz.prog 27 #[mval ma M] w
 fun e w'=>e=.returned (.tuple #[mval MA.zero ⟨M.sp,M.lo,M.hi,M.fr,M.tt,5,[],[]⟩,.int .i64 0])∧Below w.heap.size w w':=by
 obtain⟨CA,cn,cc,HA,hn,hc2⟩:=ma
 obtain⟨sp,lo,hi,fr,tt,st,cp,ch⟩:=M
 simp only at h4 h5 ⊢
 obtain⟨wa,hwa⟩:∃wa,(w.alloc (.cells (marr ⟨CA,cn,cc,HA,hn,hc2⟩ ⟨sp,lo,hi,fr,tt,st,cp,ch⟩) 35)).alloc (.cells (marr MA.zero Mv.zero) 35)=wa:=⟨_,rfl⟩
 have B0:Hid (Blk wa w.heap.size 35 (marr ⟨CA,cn,cc,HA,hn,hc2⟩ ⟨sp,lo,hi,fr,tt,st,cp,ch⟩)):=by rw[←hwa];exact(Blk.new_at rfl).alloc _
 have B2:Hid (Blk wa (w.heap.size+1) 35 (marr MA.zero Mv.zero)):=by rw[←hwa];exact Blk.new_at (by simp)
 have BE:Hid (Below w.heap.size w wa):=by rw[←hwa];exact((Below.refl _ _).alloc (qL) _).alloc (by simp) _
 have HWA:=qD hwa
 clear hwa
 go_enter Tryz.func27,Tryz.ntmps27
 go_upto_region 1 with fail
 change Code.wp _ _ _ _ ((w.alloc (.cells (marr ⟨CA,cn,cc,HA,hn,hc2⟩ ⟨sp,lo,hi,fr,tt,st,cp,ch⟩) 35)).alloc (.cells (marr MA.zero Mv.zero) 35))
 rw[HWA.out]
 clear HWA
 have q5:wa.cell? ⟨w.heap.size,5,none⟩=some (.int .i64 st):=B0.out.cell 5
 have s4:(st==4)=false:=by simpa using h4
 have s5:(st==5)=false:=by simpa using h5
 go_upto_region 3 with fail
 clear s4 s5 h4 h5
 have z5:=B0.out.frozen 5
 go_upto_region 4 with fail
 change Code.wp _ _ _ _ (wa.setCell ⟨w.heap.size,5,none⟩ (.int .i64 5))
 clear q5 z5
 have C0:Hid (Blk (wa.setCell ⟨w.heap.size,5,none⟩ (.int .i64 5)) w.heap.size 35 (marr ⟨CA,cn,cc,HA,hn,hc2⟩ ⟨sp,lo,hi,fr,tt,5,cp,ch⟩)):=B0.out.set_ 5 _
 have C2:=qD (B2.out.far (p:=⟨w.heap.size,5,none⟩) (by show w.heap.size+1≠w.heap.size;omega) (.int .i64 5))
 have CE:=qD (BE.out.setCell (p:=⟨w.heap.size,5,none⟩) (qL) (.int .i64 5))
 clear B0 B2 BE
 generalize wa.setCell ⟨w.heap.size,5,none⟩ (.int .i64 5)=wb at*
 have q6:wb.cell? ⟨w.heap.size,6,none⟩=some (.slice CA cn cc):=C0.out.cell 6
 have q7:wb.cell? ⟨w.heap.size,7,none⟩=some (.slice HA hn hc2):=C0.out.cell 7
 have z6:=C0.out.frozen 6
 have z7:=C0.out.frozen 7
 go_upto_region 5 with fail
 change Code.wp _ _ _ _ ((wb.setCell ⟨w.heap.size,6,none⟩ (.slice none 0 0)).setCell ⟨w.heap.size,7,none⟩ (.slice none 0 0))
 clear q6 q7 z6 z7
 have D0:Hid (Blk ((wb.setCell ⟨w.heap.size,6,none⟩ (.slice none 0 0)).setCell ⟨w.heap.size,7,none⟩ (.slice none 0 0)) w.heap.size 35 (marr MA.zero ⟨sp,lo,hi,fr,tt,5,[],[]⟩)):=(C0.out.set_ 6 _).set_ 7 _
 have D2:=qD ((C2.out.far (p:=⟨w.heap.size,6,none⟩) (by show w.heap.size+1≠w.heap.size;omega) (.slice none 0 0)).far (p:=⟨w.heap.size,7,none⟩) (by show w.heap.size+1≠w.heap.size;omega) (.slice none 0 0))
 have DE:=qD ((CE.out.setCell (p:=⟨w.heap.size,6,none⟩) (qL) (.slice none 0 0)).setCell (p:=⟨w.heap.size,7,none⟩) (qL) (.slice none 0 0))
 clear C0 C2 CE
 generalize (wb.setCell ⟨w.heap.size,6,none⟩ (.slice none 0 0)).setCell ⟨w.heap.size,7,none⟩ (.slice none 0 0)=wd at*
 go_wp2_with (first|(refine wpList_load_row rfl 35 _ rfl (w.heap.size) rfl _ _ _ _ D0.out Tryz.underlying35 rfl (by rw[sizeM];rfl) ?_)|(refine wpList_store_row rfl 35 _ _ rfl (w.heap.size+1) (marr MA.zero ⟨sp,lo,hi,fr,tt,5,[],[]⟩) rfl rfl 35 _ D2.out (by rw[sizeM];rfl) rfl (marr_all _ _) ?_))
 refine bodyPost_ret (results_mv rfl _ (w.heap.size+1) rfl (.int .i64 0) rfl _ MA.zero ⟨sp,lo,hi,fr,tt,5,[],[]⟩ (Blk.row D2.out _)) rfl ?_
 exact⟨rfl,below_row DE.out (by omega) _⟩
theorem rabort_ref(M:Mv)(ma:MA)(w:World)(hst:M.st=4∨M.st=5):Calls Tryz.prog 27 #[mval ma M] w
 fun e w'=>e=.returned (.tuple #[mval MA.zero Mv.zero,.int .i64 23])∧Below w.heap.size w w':=by
 obtain⟨sp,lo,hi,fr,tt,st,cp,ch⟩:=M
 simp only at hst
 obtain⟨wa,hwa⟩:∃wa,(w.alloc (.cells (marr ma ⟨sp,lo,hi,fr,tt,st,cp,ch⟩) 35)).alloc (.cells (marr MA.zero Mv.zero) 35)=wa:=⟨_,rfl⟩
 have B0:Hid (Blk wa w.heap.size 35 (marr ma ⟨sp,lo,hi,fr,tt,st,cp,ch⟩)):=by rw[←hwa];exact(Blk.new_at rfl).alloc _
 have B2:Hid (Blk wa (w.heap.size+1) 35 (marr MA.zero Mv.zero)):=by rw[←hwa];exact Blk.new_at (by simp)
 have BE:Hid (Below w.heap.size w wa):=by rw[←hwa];exact((Below.refl _ _).alloc (qL) _).alloc (by simp) _
 have HWA:=qD hwa
 clear hwa
 go_enter Tryz.func27,Tryz.ntmps27
 go_upto_region 1 with fail
 change Code.wp _ _ _ _ ((w.alloc (.cells (marr ma ⟨sp,lo,hi,fr,tt,st,cp,ch⟩) 35)).alloc (.cells (marr MA.zero Mv.zero) 35))
 rw[HWA.out]
 clear HWA
 have q5:wa.cell? ⟨w.heap.size,5,none⟩=some (.int .i64 st):=B0.out.cell 5
 rcases hst with rfl|rfl
 ·go_wp2_with (refine wpList_store_row rfl 35 _ _ rfl (w.heap.size+1) (marr MA.zero Mv.zero) rfl rfl 35 _ B2.out (by rw[sizeM];rfl) rfl (marr_all _ _) ?_)
  refine bodyPost_ret (results_mv rfl _ (w.heap.size+1) rfl (.int .i64 23) rfl _ MA.zero Mv.zero (Blk.row B2.out _)) rfl ?_
  exact⟨rfl,below_row BE.out (by omega) _⟩
 ·go_wp2_with (refine wpList_store_row rfl 35 _ _ rfl (w.heap.size+1) (marr MA.zero Mv.zero) rfl rfl 35 _ B2.out (by rw[sizeM];rfl) rfl (marr_all _ _) ?_)
  refine bodyPost_ret (results_mv rfl _ (w.heap.size+1) rfl (.int .i64 23) rfl _ MA.zero Mv.zero (Blk.row B2.out _)) rfl ?_
  exact⟨rfl,below_row BE.out (by omega) _⟩
theorem rcopy_ref(M:Mv)(ma:MA)(R:Ro)(a:RA)(DA:Option Addr)(dn dc:Nat)(w:World)(hst:M.st≠1):
 Calls Tryz.prog 19 #[mval ma M,rval a R,.slice DA dn dc] w fun e w'=>e=.returned (.tuple #[mval MA.zero Mv.zero,.int .i64 23])∧Below w.heap.size w w':=by
 obtain⟨sp,lo,hi,fr,tt,st,cp,ch⟩:=M
 simp only at hst
 obtain⟨wa,hwa⟩:∃wa,((w.alloc (.cells (marr ma ⟨sp,lo,hi,fr,tt,st,cp,ch⟩) 35)).alloc (.cells (rarr a R) 27)).alloc (.cells (marr MA.zero Mv.zero) 35)=wa:=⟨_,rfl⟩
 have B0:Hid (Blk wa w.heap.size 35 (marr ma ⟨sp,lo,hi,fr,tt,st,cp,ch⟩)):=by rw[←hwa];exact((Blk.new_at rfl).alloc _).alloc _
 have B2:Hid (Blk wa (w.heap.size+2) 35 (marr MA.zero Mv.zero)):=by rw[←hwa];exact Blk.new_at (by simp)
 have BE:Hid (Below w.heap.size w wa):=by rw[←hwa];exact(((Below.refl _ _).alloc (qL) _).alloc (by simp) _).alloc (by simp;omega) _
 have HWA:=qD hwa
 clear hwa
 go_enter Tryz.func19,Tryz.ntmps19
 go_upto_region 1 with fail
 change Code.wp _ _ _ _ (((w.alloc (.cells (marr ma ⟨sp,lo,hi,fr,tt,st,cp,ch⟩) 35)).alloc (.cells (rarr a R) 27)).alloc (.cells (marr MA.zero Mv.zero) 35))
 rw[HWA.out]
 clear HWA
 have q5:wa.cell? ⟨w.heap.size,5,none⟩=some (.int .i64 st):=B0.out.cell 5
 have s1:(st != 1)=true:=by simpa using hst
 go_wp2_with (refine wpList_store_row rfl 35 _ _ rfl (w.heap.size+2) (marr MA.zero Mv.zero) rfl rfl 35 _ B2.out (by rw[sizeM];rfl) rfl (marr_all _ _) ?_)
 refine bodyPost_ret (results_mv rfl _ (w.heap.size+2) rfl (.int .i64 23) rfl _ MA.zero Mv.zero (Blk.row B2.out _)) rfl ?_
 exact⟨rfl,below_row BE.out (by omega) _⟩
theorem rload_ref(M:Mv)(ma:MA)(w:World)(hst:M.st≠2):Calls Tryz.prog 22 #[mval ma M] w
 fun e w'=>e=.returned (.tuple #[mval MA.zero Mv.zero,.slice none 0 0,.int .i64 23])∧Below w.heap.size w w':=by
 obtain⟨sp,lo,hi,fr,tt,st,cp,ch⟩:=M
 simp only at hst
 obtain⟨wa,hwa⟩:∃wa,(w.alloc (.cells (marr ma ⟨sp,lo,hi,fr,tt,st,cp,ch⟩) 35)).alloc (.cells (marr MA.zero Mv.zero) 35)=wa:=⟨_,rfl⟩
 have B0:Hid (Blk wa w.heap.size 35 (marr ma ⟨sp,lo,hi,fr,tt,st,cp,ch⟩)):=by rw[←hwa];exact(Blk.new_at rfl).alloc _
 have B2:Hid (Blk wa (w.heap.size+1) 35 (marr MA.zero Mv.zero)):=by rw[←hwa];exact Blk.new_at (by simp)
 have BE:Hid (Below w.heap.size w wa):=by rw[←hwa];exact((Below.refl _ _).alloc (qL) _).alloc (by simp) _
 have HWA:=qD hwa
 clear hwa
 go_enter Tryz.func22,Tryz.ntmps22
 go_upto_region 1 with fail
 change Code.wp _ _ _ _ ((w.alloc (.cells (marr ma ⟨sp,lo,hi,fr,tt,st,cp,ch⟩) 35)).alloc (.cells (marr MA.zero Mv.zero) 35))
 rw[HWA.out]
 clear HWA
 have q5:wa.cell? ⟨w.heap.size,5,none⟩=some (.int .i64 st):=B0.out.cell 5
 have s1:(st != 2)=true:=by simpa using hst
 go_wp2_with (refine wpList_store_row rfl 35 _ _ rfl (w.heap.size+1) (marr MA.zero Mv.zero) rfl rfl 35 _ B2.out (by rw[sizeM];rfl) rfl (marr_all _ _) ?_)
 refine bodyPost_ret (results_load rfl _ (w.heap.size+1) rfl (.slice none 0 0) rfl (.int .i64 23) rfl _ MA.zero Mv.zero (Blk.row B2.out _)) rfl ?_
 exact⟨rfl,below_row BE.out (by omega) _⟩
theorem rnote_ref(M:Mv)(ma:MA)(R:Ro)(a:RA)(cs:List Value)(w:World)(hst:M.st≠2):
 Calls Tryz.prog 21 #[mval ma M,rval a R,.agg cs.toArray] w fun e w'=>e=.returned (.tuple #[mval MA.zero Mv.zero,.int .i64 23])∧Below w.heap.size w w':=by
 obtain⟨CA,cn,cc,HA,hn,hc2⟩:=ma
 obtain⟨sp,lo,hi,fr,tt,st,cp,ch⟩:=M
 simp only at hst
 obtain⟨wa,hwa⟩:∃wa,(((w.alloc (.cells (marr ⟨CA,cn,cc,HA,hn,hc2⟩ ⟨sp,lo,hi,fr,tt,st,cp,ch⟩) 35)).alloc (.cells (rarr a R) 27)).alloc (.cells cs.toArray 67)).alloc (.cells (marr MA.zero Mv.zero) 35)=wa:=⟨_,rfl⟩
 have B0:Hid (Blk wa w.heap.size 35 (marr ⟨CA,cn,cc,HA,hn,hc2⟩ ⟨sp,lo,hi,fr,tt,st,cp,ch⟩)):=by rw[←hwa];exact(((Blk.new_at rfl).alloc _).alloc _).alloc _
 have BR:Hid (Blk wa (w.heap.size+1) 27 (rarr a R)):=by rw[←hwa];exact((Blk.new_at (by simp)).alloc _).alloc _
 have BW:Hid (Blk wa (w.heap.size+2) 67 cs.toArray):=by rw[←hwa];exact(Blk.new_at (by simp)).alloc _
 have BZ:Hid (Blk wa (w.heap.size+3) 35 (marr MA.zero Mv.zero)):=by rw[←hwa];exact Blk.new_at (by simp)
 have BE:Hid (Below w.heap.size w wa):=by rw[←hwa];exact((((Below.refl _ _).alloc (qL) _).alloc (by simp) _).alloc (by simp;omega) _).alloc (by simp;omega) _
 have HW3:Hid (wa.heap.size=w.heap.size+4):=by rw[←hwa];simp[Hid]
 have HWA:=qD hwa
 clear hwa
 go_enter Tryz.func21,Tryz.ntmps21
 go_upto_region 1 with fail
 change Code.wp _ _ _ _ ((((w.alloc (.cells (marr ⟨CA,cn,cc,HA,hn,hc2⟩ ⟨sp,lo,hi,fr,tt,st,cp,ch⟩) 35)).alloc (.cells (rarr a R) 27)).alloc (.cells cs.toArray 67)).alloc (.cells (marr MA.zero Mv.zero) 35))
 rw[HWA.out]
 clear HWA
 have q5:wa.cell? ⟨w.heap.size,5,none⟩=some (.int .i64 st):=B0.out.cell 5
 have s1:(st != 2)=true:=by simpa using hst
 go_wp2_with (refine wpList_store_row rfl 35 _ _ rfl (w.heap.size+3) (marr MA.zero Mv.zero) rfl rfl 35 _ BZ.out (by rw[sizeM];rfl) rfl (marr_all _ _) ?_)
 refine bodyPost_ret (results_mv rfl _ (w.heap.size+3) rfl (.int .i64 23) rfl _ MA.zero Mv.zero (Blk.row BZ.out _)) rfl ?_
 exact⟨rfl,below_row BE.out (by omega) _⟩
theorem rcommit_ref(M:Mv)(ma:MA)(R:Ro)(a:RA)(w:World)(hst:M.st≠2):Calls Tryz.prog 24 #[mval ma M,rval a R] w
 fun e w'=>e=.returned (.tuple #[mval MA.zero Mv.zero,rval RA.zero Ro.zero,.int .i64 23])∧Below w.heap.size w w':=by
 obtain⟨sp,lo,hi,fr,tt,st,cp,ch⟩:=M
 simp only at hst
 obtain⟨wa,hwa⟩:∃wa,(((w.alloc (.cells (marr ma ⟨sp,lo,hi,fr,tt,st,cp,ch⟩) 35)).alloc (.cells (rarr a R) 27)).alloc (.cells (marr MA.zero Mv.zero) 35)).alloc (.cells (rarr RA.zero Ro.zero) 27)=wa:=⟨_,rfl⟩
 have B0:Hid (Blk wa w.heap.size 35 (marr ma ⟨sp,lo,hi,fr,tt,st,cp,ch⟩)):=by rw[←hwa];exact(((Blk.new_at rfl).alloc _).alloc _).alloc _
 have B2:Hid (Blk wa (w.heap.size+2) 35 (marr MA.zero Mv.zero)):=by rw[←hwa];exact(Blk.new_at (by simp)).alloc _
 have B3:Hid (Blk wa (w.heap.size+3) 27 (rarr RA.zero Ro.zero)):=by rw[←hwa];exact Blk.new_at (by simp)
 have BE:Hid (Below w.heap.size w wa):=by rw[←hwa];exact((((Below.refl _ _).alloc (qL) _).alloc (by simp) _).alloc (by simp;omega) _).alloc (by simp;omega) _
 have HWA:=qD hwa
 clear hwa
 go_enter Tryz.func24,Tryz.ntmps24
 go_upto_region 1 with fail
 change Code.wp _ _ _ _ ((((w.alloc (.cells (marr ma ⟨sp,lo,hi,fr,tt,st,cp,ch⟩) 35)).alloc (.cells (rarr a R) 27)).alloc (.cells (marr MA.zero Mv.zero) 35)).alloc (.cells (rarr RA.zero Ro.zero) 27))
 rw[HWA.out]
 clear HWA
 have q5:wa.cell? ⟨w.heap.size,5,none⟩=some (.int .i64 st):=B0.out.cell 5
 have s1:(st != 2)=true:=by simpa using hst
 have B3R:=qD (Blk.row_far B3.out (by omega:w.heap.size+3≠w.heap.size+2) (marr MA.zero Mv.zero))
 go_wp2_with (first|(refine wpList_store_row rfl 35 _ _ rfl (w.heap.size+2) (marr MA.zero Mv.zero) rfl rfl 35 _ B2.out (by rw[sizeM];rfl) rfl (marr_all _ _) ?_)|(refine wpList_store_row rfl 27 _ _ rfl (w.heap.size+3) (rarr RA.zero Ro.zero) rfl rfl 27 _ B3R.out (by rw[sizeR];rfl) rfl (rarr_all _ _) ?_))
 exact bodyPost_ret (results_commit rfl _ (w.heap.size+2) (w.heap.size+3) rfl rfl (.int .i64 23) rfl _ MA.zero Mv.zero RA.zero Ro.zero (Blk.row_far (Blk.row B2.out _) (by omega) _) (Blk.row B3R.out _)) rfl ⟨rfl,below_row (below_row BE.out (by omega) _) (by omega) _⟩
theorem rcommit_refC(M:Mv)(ma:MA)(R:Ro)(a:RA)(w:World)(hst:M.st=2)(hcn:0<ma.cn):Calls Tryz.prog 24 #[mval ma M,rval a R] w
 fun e w'=>e=.returned (.tuple #[mval MA.zero Mv.zero,rval RA.zero Ro.zero,.int .i64 23])∧Below w.heap.size w w':=by
 obtain⟨sp,lo,hi,fr,tt,st,cp,ch⟩:=M
 obtain⟨CA,cn,cc,HA,hn,hc2⟩:=ma
 simp only at hst hcn
 subst hst
 have hci:(0:Int)<(cn:Int):=by omega
 obtain⟨wa,hwa⟩:∃wa,(((w.alloc (.cells (marr ⟨CA,cn,cc,HA,hn,hc2⟩ ⟨sp,lo,hi,fr,tt,2,cp,ch⟩) 35)).alloc (.cells (rarr a R) 27)).alloc (.cells (marr MA.zero Mv.zero) 35)).alloc (.cells (rarr RA.zero Ro.zero) 27)=wa:=⟨_,rfl⟩
 have B0:Hid (Blk wa w.heap.size 35 (marr ⟨CA,cn,cc,HA,hn,hc2⟩ ⟨sp,lo,hi,fr,tt,2,cp,ch⟩)):=by rw[←hwa];exact(((Blk.new_at rfl).alloc _).alloc _).alloc _
 have B2:Hid (Blk wa (w.heap.size+2) 35 (marr MA.zero Mv.zero)):=by rw[←hwa];exact(Blk.new_at (by simp)).alloc _
 have B3:Hid (Blk wa (w.heap.size+3) 27 (rarr RA.zero Ro.zero)):=by rw[←hwa];exact Blk.new_at (by simp)
 have BE:Hid (Below w.heap.size w wa):=by rw[←hwa];exact((((Below.refl _ _).alloc (qL) _).alloc (by simp) _).alloc (by simp;omega) _).alloc (by simp;omega) _
 have HWA:=qD hwa
 clear hwa
 go_enter Tryz.func24,Tryz.ntmps24
 go_upto_region 1 with fail
 change Code.wp _ _ _ _ ((((w.alloc (.cells (marr ⟨CA,cn,cc,HA,hn,hc2⟩ ⟨sp,lo,hi,fr,tt,2,cp,ch⟩) 35)).alloc (.cells (rarr a R) 27)).alloc (.cells (marr MA.zero Mv.zero) 35)).alloc (.cells (rarr RA.zero Ro.zero) 27))
 rw[HWA.out]
 clear HWA
 have q5:wa.cell? ⟨w.heap.size,5,none⟩=some (.int .i64 2):=B0.out.cell 5
 have q6:wa.cell? ⟨w.heap.size,6,none⟩=some (.slice CA cn cc):=B0.out.cell 6
 have q7:wa.cell? ⟨w.heap.size,7,none⟩=some (.slice HA hn hc2):=B0.out.cell 7
 have B3R:=qD (Blk.row_far B3.out (by omega:w.heap.size+3≠w.heap.size+2) (marr MA.zero Mv.zero))
 go_wp2_with (first|(refine wpList_store_row rfl 35 _ _ rfl (w.heap.size+2) (marr MA.zero Mv.zero) rfl rfl 35 _ B2.out (by rw[sizeM];rfl) rfl (marr_all _ _) ?_)|(refine wpList_store_row rfl 27 _ _ rfl (w.heap.size+3) (rarr RA.zero Ro.zero) rfl rfl 27 _ B3R.out (by rw[sizeR];rfl) rfl (rarr_all _ _) ?_))
 exact bodyPost_ret (results_commit rfl _ (w.heap.size+2) (w.heap.size+3) rfl rfl (.int .i64 23) rfl _ MA.zero Mv.zero RA.zero Ro.zero (Blk.row_far (Blk.row B2.out _) (by omega) _) (Blk.row B3R.out _)) rfl ⟨rfl,below_row (below_row BE.out (by omega) _) (by omega) _⟩
theorem rcommit_refH(M:Mv)(ma:MA)(R:Ro)(a:RA)(w:World)(hst:M.st=2)(hcn:ma.cn=0)(hhn:0<ma.hn):Calls Tryz.prog 24 #[mval ma M,rval a R] w
 fun e w'=>e=.returned (.tuple #[mval MA.zero Mv.zero,rval RA.zero Ro.zero,.int .i64 23])∧Below w.heap.size w w':=by
 obtain⟨sp,lo,hi,fr,tt,st,cp,ch⟩:=M
 obtain⟨CA,cn,cc,HA,hn,hc2⟩:=ma
 simp only at hst hcn hhn
 subst hst hcn
 have hci:(0:Int)<(hn:Int):=by omega
 obtain⟨wa,hwa⟩:∃wa,(((w.alloc (.cells (marr ⟨CA,0,cc,HA,hn,hc2⟩ ⟨sp,lo,hi,fr,tt,2,cp,ch⟩) 35)).alloc (.cells (rarr a R) 27)).alloc (.cells (marr MA.zero Mv.zero) 35)).alloc (.cells (rarr RA.zero Ro.zero) 27)=wa:=⟨_,rfl⟩
 have B0:Hid (Blk wa w.heap.size 35 (marr ⟨CA,0,cc,HA,hn,hc2⟩ ⟨sp,lo,hi,fr,tt,2,cp,ch⟩)):=by rw[←hwa];exact(((Blk.new_at rfl).alloc _).alloc _).alloc _
 have B2:Hid (Blk wa (w.heap.size+2) 35 (marr MA.zero Mv.zero)):=by rw[←hwa];exact(Blk.new_at (by simp)).alloc _
 have B3:Hid (Blk wa (w.heap.size+3) 27 (rarr RA.zero Ro.zero)):=by rw[←hwa];exact Blk.new_at (by simp)
 have BE:Hid (Below w.heap.size w wa):=by rw[←hwa];exact((((Below.refl _ _).alloc (qL) _).alloc (by simp) _).alloc (by simp;omega) _).alloc (by simp;omega) _
 have HWA:=qD hwa
 clear hwa
 go_enter Tryz.func24,Tryz.ntmps24
 go_upto_region 1 with fail
 change Code.wp _ _ _ _ ((((w.alloc (.cells (marr ⟨CA,0,cc,HA,hn,hc2⟩ ⟨sp,lo,hi,fr,tt,2,cp,ch⟩) 35)).alloc (.cells (rarr a R) 27)).alloc (.cells (marr MA.zero Mv.zero) 35)).alloc (.cells (rarr RA.zero Ro.zero) 27))
 rw[HWA.out]
 clear HWA
 have q5:wa.cell? ⟨w.heap.size,5,none⟩=some (.int .i64 2):=B0.out.cell 5
 have q6:wa.cell? ⟨w.heap.size,6,none⟩=some (.slice CA 0 cc):=B0.out.cell 6
 have q7:wa.cell? ⟨w.heap.size,7,none⟩=some (.slice HA hn hc2):=B0.out.cell 7
 have B3R:=qD (Blk.row_far B3.out (by omega:w.heap.size+3≠w.heap.size+2) (marr MA.zero Mv.zero))
 go_wp2_with (first|(refine wpList_store_row rfl 35 _ _ rfl (w.heap.size+2) (marr MA.zero Mv.zero) rfl rfl 35 _ B2.out (by rw[sizeM];rfl) rfl (marr_all _ _) ?_)|(refine wpList_store_row rfl 27 _ _ rfl (w.heap.size+3) (rarr RA.zero Ro.zero) rfl rfl 27 _ B3R.out (by rw[sizeR];rfl) rfl (rarr_all _ _) ?_))
 exact bodyPost_ret (results_commit rfl _ (w.heap.size+2) (w.heap.size+3) rfl rfl (.int .i64 23) rfl _ MA.zero Mv.zero RA.zero Ro.zero (Blk.row_far (Blk.row B2.out _) (by omega) _) (Blk.row B3R.out _)) rfl ⟨rfl,below_row (below_row BE.out (by omega) _) (by omega) _⟩
theorem rabort(M:Mv)(ma:MA)(w:World)(hm:MR w ma M):Calls Tryz.prog 27 #[mval ma M] w (MvR (abortM M) w):=by
 by_cases hs:M.st=4∨M.st=5
 ·refine(rabort_ref M ma w hs).mono ?_
  rintro e w' ⟨rfl,hb⟩
  unfold MvR abortM
  rw[if_pos hs]
  exact⟨MA.zero,rfl,MR.zero,hb⟩
 ·refine(rabort_any M ma w (fun h=>hs (.inl h)) (fun h=>hs (.inr h))).mono ?_
  rintro e w' ⟨rfl,hb⟩
  unfold MvR abortM
  rw[if_neg hs]
  exact⟨MA.zero,rfl,⟨hm.sp,⟨[],rfl,WS.nil⟩,⟨[],rfl,WS.nil⟩⟩,hb⟩
theorem RW1.low{F:Nat→Prop}{w:World}{c:WC}{x:Wt}(h:RW1 F w c x):RW1 (fun b=>b<w.heap.size) w c x:=h.keepG fun _ _ hl=>⟨hl,rfl⟩
theorem RW1.back{w wr:World}{c:WC}{x:Wt}(h:RW1 (fun b=>b<w.heap.size) wr c x)(hb:Below w.heap.size w wr):RW1 (fun b=>b<w.heap.size) w c x:=h.keepG fun b hF _=>⟨hF,(hb.block b hF).symm⟩
structure RgI(lo:Nat)(w:World)(v:Value)(ps:List PW)(wr:World):Prop where
 own:wr.ownsRow lo 67 78 v ps.length (flat recW ps)
 rv:∀p∈ps,RW1 (fun b=>b<w.heap.size) w p.1 p.2
 lo:w.heap.size≤lo
 bel:Below w.heap.size w wr
theorem RgI.keep{lo:Nat}{w wr w':World}{v:Value}{ps:List PW}(h:RgI lo w v ps wr)(hk:∀b,lo≤b→b<wr.heap.size→w'.heap[b]?=wr.heap[b]?)(hb:Below w.heap.size w w'):RgI lo w v ps w':=
 ⟨own_keep h.own fun g hg=>hk g (own_ge h.own g hg) (own_lt h.own hg),h.rv,h.lo,hb⟩
theorem RgI.step{lo:Nat}{w wr w':World}{v:Value}{ps:List PW}(h:RgI lo w v ps wr)(hb:Below wr.heap.size wr w'):RgI lo w v ps w':=h.keep (fun b _ hl=>hb.block b hl) (h.bel.step' hb)
theorem RgI.start{lo:Nat}{w wr:World}(hl:w.heap.size≤lo)(hb:Below w.heap.size w wr):RgI lo w (.slice none 0 0) [] wr:=⟨own_nil _ _ _ _,fun p hp=>by simp at hp,hl,hb⟩
theorem RgI.addL{lo:Nat}{w wr w':World}{v v':Value}{ps qs:List PW}{m:Nat}(h:RgI lo w v ps wr)(hp:∀p∈qs,RW1 (fun b=>b<w.heap.size) w p.1 p.2)(hm:m=ps.length+qs.length)(ho:w'.ownsRow lo 67 78 v' m (flat recW ps++flat recW qs))(hg:wr.grownBy w' v.ownBlock):RgI lo w v' (ps++qs) w':=by
 subst hm
 refine⟨by rw[flat_append,List.length_append];exact ho,fun q hq=>?_,h.lo,h.bel.grown hg h.bel.size (fun k hk=>by have:=own_ge h.own k hk;have:=h.lo;omega)⟩
 rcases List.mem_append.1 hq with hq|hq
 ·exact h.rv q hq
 ·exact hp q hq
theorem RgI.sl{lo:Nat}{w wr:World}{v:Value}{ps:List PW}(h:RgI lo w v ps wr)(hz:ps.length≤100000):∃A c,v=.slice A ps.length c∧WS (fun _=>True) wr A ps.length c ps:=by
 obtain⟨A,c,e,hs⟩:=SR.of_own recW_length h.own rfl
 exact⟨A,c,e,hs,by unfold reach;omega,fun p hp=>((h.rv p hp).step h.bel).mono fun _ _=>trivial⟩
theorem flat_oneW(ps:List PW):∀u∈flat recW ps,u.oneCell'=true:=flat_one recW_one ps
theorem rload_any(M:Mv)(ma:MA)(w:World)(hm:MR w ma M)(hst:M.st=2)(hc:M.cp.length≤1000)(hh:M.ch.length≤1000):Calls Tryz.prog 22 #[mval ma M] w (LdR (loadM2 M) w):=by
 obtain⟨j0,hj0,hw0,hw1,hw2⟩:=info_parts info_write
 obtain⟨CA,cn,cc,HA,hn,hc2⟩:=ma
 obtain⟨sp,lo,hi,fr,tt,st,cp,ch⟩:=M
 simp only at hst hc hh
 subst hst
 obtain⟨ps,hps,P⟩:=hm.cp
 obtain⟨qs,hqs,Q⟩:=hm.ch
 have hsp:Hid (sp.size≤reach):=hm.sp
 simp only at hps hqs P Q
 have hcn:cn=ps.length:=P.sr.ln
 have hhn:hn=qs.length:=Q.sr.ln
 subst hcn hhn
 have hl1:ps.length≤1000:=by have:=congrArg List.length hps;rw[List.length_map] at this;omega
 have hl2:qs.length≤1000:=by have:=congrArg List.length hqs;rw[List.length_map] at this;omega
 have HP:=qD P
 have HQ:=qD Q
 have HPS:=qD hps
 have HQS:=qD hqs
 clear hm hps hqs P Q hc hh
 obtain⟨wa,hwa⟩:∃wa,(w.alloc (.cells (marr ⟨CA,ps.length,cc,HA,qs.length,hc2⟩ ⟨sp,lo,hi,fr,tt,2,cp,ch⟩) 35)).alloc (.cells (marr MA.zero Mv.zero) 35)=wa:=⟨_,rfl⟩
 have B0:Hid (Blk wa w.heap.size 35 (marr ⟨CA,ps.length,cc,HA,qs.length,hc2⟩ ⟨sp,lo,hi,fr,tt,2,cp,ch⟩)):=by rw[←hwa];exact(Blk.new_at rfl).alloc _
 have B2:Hid (Blk wa (w.heap.size+1) 35 (marr MA.zero Mv.zero)):=by rw[←hwa];exact Blk.new_at (by simp)
 have BE:Hid (Below w.heap.size w wa):=by rw[←hwa];exact((Below.refl _ _).alloc (qL) _).alloc (by simp) _
 have hW2:w.heap.size+1<wa.heap.size:=B2.out.lt
 have HWA:=qD hwa
 clear hwa
 go_enter Tryz.func22,Tryz.ntmps22
 go_upto_region 1 with fail
 change Code.wp _ _ _ _ ((w.alloc (.cells (marr ⟨CA,ps.length,cc,HA,qs.length,hc2⟩ ⟨sp,lo,hi,fr,tt,2,cp,ch⟩) 35)).alloc (.cells (marr MA.zero Mv.zero) 35))
 rw[HWA.out]
 clear HWA
 have q5:wa.cell? ⟨w.heap.size,5,none⟩=some (.int .i64 2):=B0.out.cell 5
 have q6:wa.cell? ⟨w.heap.size,6,none⟩=some (.slice CA ps.length cc):=B0.out.cell 6
 have V0:Hid (RgI wa.heap.size w (.slice none 0 0) [] wa):=RgI.start BE.out.size BE.out
 have PA:=qD (HP.out.step BE.out)
 go_upto_region 5 with(at_builtin;refine wpList_append_any _ rfl _ _ 33 rfl wa.heap.size 67 j0 _ 78 1168 Tryz.underlying33 hj0 hw0 hw1 hw2 rfl (by decide) (.slice none 0 0) 0 (flat recW []) rfl V0.out.own _ CA ps.length cc (flat recW ps) rfl (PA.out.sr.reads recW_length (by decide)) (flat_oneW _) (by unfold maxLen;omega) (by omega) (qL) ?_)
 intro v1 w1 hown hgr hat
 have V1:=qD (V0.out.addL (qs:=ps) (fun p hp=>(HP.out.el p hp).low) (by simp) hown hgr)
 have ho0:∀b,b<wa.heap.size→some b≠(Value.slice none 0 0).ownBlock:=fun b hb e=>by cases e
 have C0:=qD (B0.out.grown hgr (ho0 _ (by omega)))
 have C2:=qD (B2.out.grown hgr (ho0 _ (by omega)))
 have hs1:wa.heap.size≤w1.heap.size:=hgr.size
 clear hown hgr hat q5 q6 B0 B2 V0 PA ho0
 have q7:w1.cell? ⟨w.heap.size,7,none⟩=some (.slice HA qs.length hc2):=C0.out.cell 7
 have QA:=qD (HQ.out.step V1.out.bel)
 rw[List.nil_append] at V1
 go_upto_region 6 with(at_builtin;refine wpList_append_any _ rfl _ _ 33 rfl wa.heap.size 67 j0 _ 78 1168 Tryz.underlying33 hj0 hw0 hw1 hw2 rfl (by decide) v1 ps.length (flat recW ps) rfl V1.out.own _ HA qs.length hc2 (flat recW qs) rfl (QA.out.sr.reads recW_length (by decide)) (flat_oneW _) (by unfold maxLen;omega) (by omega) hs1 ?_)
 intro v2 w2 hown hgr hat
 have V2:=qD (V1.out.addL (qs:=qs) (fun p hp=>(HQ.out.el p hp).low) (by simp) hown hgr)
 have ho1:∀b,b<wa.heap.size→some b≠v1.ownBlock:=fun b hb e=>by have:=own_ge V1.out.own b e.symm;omega
 have D0:=qD (C0.out.grown hgr (ho1 _ (by omega)))
 have D2:=qD (C2.out.grown hgr (ho1 _ (by omega)))
 have DE:Hid (Below w.heap.size w w2):=V2.out.bel
 clear hown hgr hat q7 C0 C2 V1 QA ho1
 have q6:w2.cell? ⟨w.heap.size,6,none⟩=some (.slice CA ps.length cc):=D0.out.cell 6
 have q7:w2.cell? ⟨w.heap.size,7,none⟩=some (.slice HA qs.length hc2):=D0.out.cell 7
 have z6:=D0.out.frozen 6
 have z7:=D0.out.frozen 7
 go_upto_region 7 with fail
 change Code.wp _ _ _ _ ((w2.setCell ⟨w.heap.size,6,none⟩ (.slice none 0 0)).setCell ⟨w.heap.size,7,none⟩ (.slice none 0 0))
 have E0:Hid (Blk ((w2.setCell ⟨w.heap.size,6,none⟩ (.slice none 0 0)).setCell ⟨w.heap.size,7,none⟩ (.slice none 0 0)) w.heap.size 35 (marr MA.zero ⟨sp,lo,hi,fr,tt,2,[],[]⟩)):=(D0.out.set_ 6 _).set_ 7 _
 have E2:=qD ((D2.out.far (p:=⟨w.heap.size,6,none⟩) (by show w.heap.size+1≠w.heap.size;omega) (.slice none 0 0)).far (p:=⟨w.heap.size,7,none⟩) (by show w.heap.size+1≠w.heap.size;omega) (.slice none 0 0))
 have EE:=qD ((DE.out.setCell (p:=⟨w.heap.size,6,none⟩) (qL) (.slice none 0 0)).setCell (p:=⟨w.heap.size,7,none⟩) (qL) (.slice none 0 0))
 have VE:=qD (V2.out.keep (w':=(w2.setCell ⟨w.heap.size,6,none⟩ (.slice none 0 0)).setCell ⟨w.heap.size,7,none⟩ (.slice none 0 0)) (fun b hb _=>by rw[Below.heap_setCell _ _ _ b (by show b≠w.heap.size;omega),Below.heap_setCell _ _ _ b (by show b≠w.heap.size;omega)]) EE.out)
 clear q6 q7 z6 z7 D0 D2 DE V2
 generalize (w2.setCell ⟨w.heap.size,6,none⟩ (.slice none 0 0)).setCell ⟨w.heap.size,7,none⟩ (.slice none 0 0)=w3 at*
 have VF:=qD (VE.out.keep (w':=w3.setRow (w.heap.size+1) (marr MA.zero ⟨sp,lo,hi,fr,tt,2,[],[]⟩)) (fun b hb _=>setRow_other _ _ _ _ (by omega)) (below_row EE.out (by omega) _))
 go_wp2_with (first|(refine wpList_load_row rfl 35 _ rfl (w.heap.size) rfl _ _ _ _ E0.out Tryz.underlying35 rfl (by rw[sizeM];rfl) ?_)|(refine wpList_store_row rfl 35 _ _ rfl (w.heap.size+1) (marr MA.zero ⟨sp,lo,hi,fr,tt,2,[],[]⟩) rfl rfl 35 _ E2.out (by rw[sizeM];rfl) rfl (marr_all _ _) ?_))
 obtain⟨A,c,hv,hws⟩:=VF.out.sl (by rw[List.length_append];omega)
 refine bodyPost_ret (results_load rfl _ (w.heap.size+1) rfl v2 rfl (.int .i64 0) rfl _ MA.zero ⟨sp,lo,hi,fr,tt,2,[],[]⟩ (Blk.row E2.out _)) rfl ?_
 refine⟨MA.zero,A,(ps++qs).length,c,ps++qs,?_,⟨hsp.out,⟨[],rfl,WS.nil⟩,⟨[],rfl,WS.nil⟩⟩,?_,hws,below_row EE.out (by omega) _⟩
 ·rw[hv];rfl
 ·rw[List.map_append,HPS.out,HQS.out];rfl
theorem rload(M:Mv)(ma:MA)(w:World)(hm:MR w ma M)(hc:M.cp.length≤1000)(hh:M.ch.length≤1000):Calls Tryz.prog 22 #[mval ma M] w (LdR (loadM2 M) w):=by
 by_cases hs:M.st=2
 ·exact rload_any M ma w hm hs hc hh
 ·refine(rload_ref M ma w hs).mono ?_
  rintro e w' ⟨rfl,hb⟩
  unfold LdR loadM2
  rw[if_neg hs]
  exact⟨MA.zero,none,0,0,[],rfl,MR.zero,rfl,WS.nil,hb⟩
theorem rcommit_rr(M:Mv)(ma:MA)(R:Ro)(a:RA)(w:World)(h:RR w a R)(h80:R.cs.length≤80)(hst:M.st=2)(hcn:ma.cn=0)(hhn:ma.hn=0)(hg:(giveR R M.lo M.tt).2=0)(hp:∀q∈(giveR R M.lo M.tt).1.ks,pathB q.p=true):Calls Tryz.prog 24 #[mval ma M,rval a R] w
 fun e w'=>∃a1:RA,e=.returned (.tuple #[mval ma ⟨M.sp,M.lo,M.hi,M.fr,M.tt,4,[],[]⟩,rval a1 (giveR R M.lo M.tt).1,.int .i64 0])∧RR w' a1 (giveR R M.lo M.tt).1∧Below w.heap.size w w':=by
 obtain⟨CA,cn,cc,HA,hn,hc2⟩:=ma
 obtain⟨sp,lo,hi,fr,tt,st,cp,ch⟩:=M
 simp only at hst hcn hhn hg hp ⊢
 subst hst hcn hhn
 have HR:=qD h
 have HG:=qD hg
 have HP0:=qD hp
 clear h hg hp
 obtain⟨wa,hwa⟩:∃wa,(((w.alloc (.cells (marr ⟨CA,0,cc,HA,0,hc2⟩ ⟨sp,lo,hi,fr,tt,2,cp,ch⟩) 35)).alloc (.cells (rarr a R) 27)).alloc (.cells (marr MA.zero Mv.zero) 35)).alloc (.cells (rarr RA.zero Ro.zero) 27)=wa:=⟨_,rfl⟩
 have B0:Hid (Blk wa w.heap.size 35 (marr ⟨CA,0,cc,HA,0,hc2⟩ ⟨sp,lo,hi,fr,tt,2,cp,ch⟩)):=by rw[←hwa];exact(((Blk.new_at rfl).alloc _).alloc _).alloc _
 have B1:Hid (Blk wa (w.heap.size+1) 27 (rarr a R)):=by rw[←hwa];exact((Blk.new_at (by simp)).alloc _).alloc _
 have B2:Hid (Blk wa (w.heap.size+2) 35 (marr MA.zero Mv.zero)):=by rw[←hwa];exact(Blk.new_at (by simp)).alloc _
 have B3:Hid (Blk wa (w.heap.size+3) 27 (rarr RA.zero Ro.zero)):=by rw[←hwa];exact Blk.new_at (by simp)
 have BE:Hid (Below w.heap.size w wa):=by rw[←hwa];exact((((Below.refl _ _).alloc (qL) _).alloc (by simp) _).alloc (by simp;omega) _).alloc (by simp;omega) _
 have HWA:=qD hwa
 clear hwa
 go_enter Tryz.func24,Tryz.ntmps24
 go_upto_region 1 with fail
 change Code.wp _ _ _ _ ((((w.alloc (.cells (marr ⟨CA,0,cc,HA,0,hc2⟩ ⟨sp,lo,hi,fr,tt,2,cp,ch⟩) 35)).alloc (.cells (rarr a R) 27)).alloc (.cells (marr MA.zero Mv.zero) 35)).alloc (.cells (rarr RA.zero Ro.zero) 27))
 rw[HWA.out]
 clear HWA
 have HGA:=qD (rgive_any R a lo tt wa (HR.out.step BE.out) h80)
 obtain⟨m0,m1,m2,m3,m4,m5,m6,m7⟩:=blk_mv B0.out
 simp only at m6 m7
 go_wp2_with (refine wpList_load_row rfl 27 _ rfl (w.heap.size+1) rfl _ _ _ _ B1.out Tryz.underlying27 rfl (by rw[sizeR];rfl) ?_)
 refine HGA.out.mono ?_
 rintro e w1 ⟨a1,rfl,hrr,hb⟩
 rw[HG.out]
 have C0:=qD (B0.out.step hb)
 have C2:=qD (B2.out.step hb)
 have C3:=qD (B3.out.step hb)
 have CE:=qD (BE.out.step' hb)
 have HWL:Hid (w.heap.size+3<wa.heap.size):=B3.out.lt
 obtain⟨G,hG⟩:∃G,(giveR R lo tt).1=G:=⟨_,rfl⟩
 have RR1:Hid (RR w1 a1 G):=by rw[←hG];exact hrr
 have HP:Hid (∀q∈G.ks,pathB q.p=true):=by rw[←hG];exact HP0.out
 rw[hG]
 have HGG:=qD hG
 clear hG hrr HP0
 clear hb B0 B1 B2 B3 BE m0 m1 m2 m3 m4 m5 m6 m7 HGA HG
 go_upto_region 4 with fail
 change Code.wp _ _ _ _ (w1.alloc (.cells (rarr a1 G) 27))
 have D7:Hid (Blk (w1.alloc (.cells (rarr a1 G) 27)) w1.heap.size 27 (rarr a1 G)):=Blk.new_at rfl
 have D0:=qD (C0.out.alloc (.cells (rarr a1 G) 27))
 have D2:=qD (C2.out.alloc (.cells (rarr a1 G) 27))
 have D3:=qD (C3.out.alloc (.cells (rarr a1 G) 27))
 have DE:=qD (CE.out.alloc CE.out.size (Obj.cells (rarr a1 G) 27))
 have hg7:w.heap.size+3<w1.heap.size:=C3.out.lt
 have RR2:=qD (RR1.out.alloc (.cells (rarr a1 G) 27))
 clear RR1
 generalize w1.alloc (.cells (rarr a1 G) 27)=w2 at*
 generalize w1.heap.size=g7 at*
 clear C0 C2 C3 CE
 have hN:w.heap.size+3<w2.heap.size:=D3.out.lt
 have m5:w2.cell? ⟨w.heap.size,5,none⟩=some (.int .i64 2):=D0.out.cell 5
 have z5:=D0.out.frozen 5
 go_upto_region 7 with fail
 change Code.wp _ _ _ _ (w2.setCell ⟨w.heap.size,5,none⟩ (.int .i64 4))
 have V0:Hid (Blk (w2.setCell ⟨w.heap.size,5,none⟩ (.int .i64 4)).drew w.heap.size 35 (marr ⟨CA,0,cc,HA,0,hc2⟩ ⟨sp,lo,hi,fr,tt,4,[],[]⟩)):=D0.out.set_ 5 _
 have V2:Hid (Blk (w2.setCell ⟨w.heap.size,5,none⟩ (.int .i64 4)).drew (w.heap.size+2) 35 (marr MA.zero Mv.zero)):=D2.out.far (p:=⟨w.heap.size,5,none⟩) (by show w.heap.size+2≠w.heap.size;omega) (.int .i64 4)
 have V3:Hid (Blk (w2.setCell ⟨w.heap.size,5,none⟩ (.int .i64 4)).drew (w.heap.size+3) 27 (rarr RA.zero Ro.zero)):=D3.out.far (p:=⟨w.heap.size,5,none⟩) (by show w.heap.size+3≠w.heap.size;omega) (.int .i64 4)
 have V7:Hid (Blk (w2.setCell ⟨w.heap.size,5,none⟩ (.int .i64 4)).drew g7 27 (rarr a1 G)):=D7.out.far (p:=⟨w.heap.size,5,none⟩) (by show g7≠w.heap.size;omega) (.int .i64 4)
 have VE:Hid (Below w.heap.size w (w2.setCell ⟨w.heap.size,5,none⟩ (.int .i64 4)).drew):=(DE.out.setCell (p:=⟨w.heap.size,5,none⟩) (qL) (.int .i64 4)).drew
 have RV0:Hid (RR (w2.setCell ⟨w.heap.size,5,none⟩ (.int .i64 4)) a1 G):=RR2.out.keep_mv HP.out (by simp[World.setCell]) (fun b hb=>Below.heap_setCell _ _ _ b hb) D0.out (fun _=>.inr fun j hj=>by rw[World.cell?_setCell_other _ _ _ _ (by intro e;injection e with _ e;omega)])
 have RV9:Hid (RR (w2.setCell ⟨w.heap.size,5,none⟩ (.int .i64 4)).drew a1 G):=RV0.out.step ((Below.refl _ _).drew)
 clear RV0 RR2 m5 z5 D0 D2 D3 D7 DE
 generalize w2.setCell ⟨w.heap.size,5,none⟩ (.int .i64 4)=w9 at*
 have RV:Hid (RR w9.drew a1 G):=RV9
 clear RV9
 refine wp_region_noPanic ?_
 refine wp_region_held_drew (S:=(fun w'=>Blk w' w.heap.size 35 (marr ⟨CA,0,cc,HA,0,hc2⟩ ⟨sp,lo,hi,fr,tt,4,[],[]⟩)∧Blk w' g7 27 (rarr a1 G))) (by kernel_rfl) ?_ (fun hHeld=>?_)
 ·(try dsimp only);exact⟨V0.out,V7.out⟩
 generalize w9.drew=v0 at*
 refine rT (v:=.agg (marr ⟨CA,0,cc,HA,0,hc2⟩ ⟨sp,lo,hi,fr,tt,4,[],[]⟩)) 0 rfl ?_ ?_
 ·intro w' hSw;exact exec_row rfl rfl hSw.1 Tryz.underlying35 rfl (by rw[sizeM];rfl)
 try go_frame
 refine rT (v:=.agg (rarr a1 G)) 1 rfl ?_ ?_
 ·intro w' hSw;exact exec_row rfl rfl hSw.2 Tryz.underlying27 rfl (by rw[sizeR];rfl)
 try go_frame
 refine rY 2 rfl fun K hK=>?_
 refine wp_store_row 35 _ _ rfl (w.heap.size+2) (marr ⟨CA,0,cc,HA,0,hc2⟩ ⟨sp,lo,hi,fr,tt,4,[],[]⟩) rfl rfl 35 _ V2.out (by rw[sizeM];rfl) rfl (marr_all _ _) ?_
 have U2:=qD (Blk.row V2.out (marr ⟨CA,0,cc,HA,0,hc2⟩ ⟨sp,lo,hi,fr,tt,4,[],[]⟩))
 have U0:=qD (Blk.row_far V0.out (by omega:w.heap.size≠w.heap.size+2) (marr ⟨CA,0,cc,HA,0,hc2⟩ ⟨sp,lo,hi,fr,tt,4,[],[]⟩))
 have U3:=qD (Blk.row_far V3.out (by omega:w.heap.size+3≠w.heap.size+2) (marr ⟨CA,0,cc,HA,0,hc2⟩ ⟨sp,lo,hi,fr,tt,4,[],[]⟩))
 have U7:=qD (Blk.row_far V7.out (by omega:g7≠w.heap.size+2) (marr ⟨CA,0,cc,HA,0,hc2⟩ ⟨sp,lo,hi,fr,tt,4,[],[]⟩))
 have UE:=qD (below_row VE.out (by omega:w.heap.size≤w.heap.size+2) (marr ⟨CA,0,cc,HA,0,hc2⟩ ⟨sp,lo,hi,fr,tt,4,[],[]⟩))
 have RV1:Hid (RR (v0.setRow (w.heap.size+2) (marr ⟨CA,0,cc,HA,0,hc2⟩ ⟨sp,lo,hi,fr,tt,4,[],[]⟩)) a1 G):=RV.out.keep_mv HP.out (by rw[size_setRow];exact qL) (fun b hb=>setRow_other _ _ _ _ hb) V2.out (fun _=>.inl ⟨rfl,rfl,rfl⟩)
 clear V0 V2 V3 V7 VE
 generalize v0.setRow (w.heap.size+2) (marr ⟨CA,0,cc,HA,0,hc2⟩ ⟨sp,lo,hi,fr,tt,4,[],[]⟩)=x1 at*
 clear hHeld
 refine hK.out _ _ ?_ fun hHeld=>?_
 ·(try dsimp only);exact⟨U0.out,U7.out⟩
 clear hK K
 try go_frame
 refine rY 3 rfl fun K hK=>?_
 refine wp_store_row 27 _ _ rfl (w.heap.size+3) (rarr a1 G) rfl rfl 27 _ U3.out (by rw[sizeR];rfl) rfl (rarr_all _ _) ?_
 have T3:=qD (Blk.row U3.out (rarr a1 G))
 have T0:=qD (Blk.row_far U0.out (by omega:w.heap.size≠w.heap.size+3) (rarr a1 G))
 have T2:=qD (Blk.row_far U2.out (by omega:w.heap.size+2≠w.heap.size+3) (rarr a1 G))
 have T7:=qD (Blk.row_far U7.out (by omega:g7≠w.heap.size+3) (rarr a1 G))
 have TE:=qD (below_row UE.out (by omega:w.heap.size≤w.heap.size+3) (rarr a1 G))
 have RV2:Hid (RR (x1.setRow (w.heap.size+3) (rarr a1 G)) a1 G):=RV1.out.keep_ro HP.out (by rw[size_setRow];exact qL) (fun b hb=>setRow_other _ _ _ _ hb) U3.out
 clear U0 U2 U3 U7 UE
 generalize x1.setRow (w.heap.size+3) (rarr a1 G)=x2 at*
 clear hHeld
 refine hK.out _ _ ?_ fun hHeld=>?_
 ·(try dsimp only);exact⟨T0.out,T7.out⟩
 clear hK K
 try go_frame
 refine rU 4 rfl ?_
 try go_frame
 refine rD ?_ _
 refine NoPanic.normal ?_
 all_goals
  go_wp2_with fail
  exact bodyPost_ret (results_commit rfl _ (w.heap.size+2) (w.heap.size+3) rfl rfl (.int .i64 0) rfl _ ⟨CA,0,cc,HA,0,hc2⟩ ⟨sp,lo,hi,fr,tt,4,[],[]⟩ a1 G T2.out T3.out) rfl ⟨a1,by rw[HGG.out],by rw[HGG.out];exact RV2.out,TE.out⟩
theorem rcommit(M:Mv)(ma:MA)(R:Ro)(a:RA)(w:World)(h:RR w a R)(h80:R.cs.length≤80)(hm:MR w ma M)(hg:M.st=2→(giveR R M.lo M.tt).2=0)(hp:M.st=2→∀q∈(giveR R M.lo M.tt).1.ks,pathB q.p=true):
 Calls Tryz.prog 24 #[mval ma M,rval a R] w (CmR (commitM M R) w):=by
 have ref:∀{e:Ending} {w':World},¬(M.st=2∧M.cp=[]∧M.ch=[])→(e=.returned (.tuple #[mval MA.zero Mv.zero,rval RA.zero Ro.zero,.int .i64 23])∧Below w.heap.size w w')→CmR (commitM M R) w e w':=by
  rintro e w' hn ⟨rfl,hb⟩
  unfold CmR commitM
  rw[if_neg hn]
  exact⟨MA.zero,RA.zero,rfl,MR.zero,RR.zero,hb⟩
 obtain⟨ps,hps,P⟩:=hm.cp
 obtain⟨qs,hqs,Q⟩:=hm.ch
 have c0:ma.cn=0↔M.cp=[]:=by rw[←hps];exact P.len0
 have h0:ma.hn=0↔M.ch=[]:=by rw[←hqs];exact Q.len0
 by_cases hs:M.st=2
 ·by_cases hc:ma.cn=0
  ·by_cases hh:ma.hn=0
   ·refine(rcommit_rr M ma R a w h h80 hs hc hh (hg hs) (hp hs)).mono ?_
    rintro e w' ⟨a1,rfl,hr,hb⟩
    unfold CmR commitM
    rw[if_pos ⟨hs,c0.1 hc,h0.1 hh⟩]
    have hps0:ps=[]:=List.map_eq_nil_iff.1 (hps.trans (c0.1 hc))
    have hqs0:qs=[]:=List.map_eq_nil_iff.1 (hqs.trans (h0.1 hh))
    subst hps0 hqs0
    exact⟨ma,a1,rfl,⟨hm.sp,⟨[],rfl,P.step hb⟩,⟨[],rfl,Q.step hb⟩⟩,hr,hb⟩
   ·exact(rcommit_refH M ma R a w hs hc (by omega)).mono fun e w' h=>ref (fun h1=>hh (h0.2 h1.2.2)) h
  ·exact(rcommit_refC M ma R a w hs (by omega)).mono fun e w' h=>ref (fun h1=>hc (c0.2 h1.2.1)) h
 ·exact(rcommit_ref M ma R a w hs).mono fun e w' h=>ref (fun h1=>hs h1.1) h
end Go.Proofs.YtlicnjecnehaoaaGreatDoor
