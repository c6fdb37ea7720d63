/- Parts of the proof, joined: MgCommit, MgOrph, MrNo, MrNum, MrPure. -/
import Derived.Test.YtlicnjecnehaoaaGreatDoorRa1
import Derived.Test.YtlicnjecnehaoaaGreatDoorRa17
import Derived.Test.YtlicnjecnehaoaaGreatDoorRa18
import Derived.Test.YtlicnjecnehaoaaGreatDoorRa14
import Derived.Test.YtlicnjecnehaoaaGreatDoorRa19
import Derived.Test.YtlicnjecnehaoaaGreatDoorRa16
import Derived.Test.YtlicnjecnehaoaaGreatDoorRa12
import Derived.Test.YtlicnjecnehaoaaGreatDoorRa2
import Derived.Deep.RegionHeld3
import Derived.Laws.Concat
set_option maxRecDepth 100000
set_option maxHeartbeats 16000000
set_option linter.unusedSimpArgs false
namespace Go.Proofs.YtlicnjecnehaoaaGreatDoor
open Go.RowKit
theorem SR.keep_but{α:Type}{s:Nat}{rec:α→List Value}{w w':World}{g:Nat}{A:Option Addr}{n c:Nat}{l:List α}(h:SR s rec w A n c l)(hs:w.heap.size≤w'.heap.size)(ho:∀k,k≠g→w'.heap[k]?=w.heap[k]?)(hb:∀b off,0<n→A=some ⟨b,off,none⟩→(∀(i:Nat) (a:α),l[i]?=some a→∀(j:Nat) (v:Value),(rec a)[j]?=some v→w.cell? ⟨b,off+i*s+j,none⟩=some v)→b≠g):SR s rec w' A n c l:=by
 refine⟨h.ln,h.lc,fun hn=>?_⟩
 obtain⟨b,off,h1,h2,h3⟩:=h.el hn
 have hne:=hb b off hn h1 h3
 exact⟨b,off,h1,Nat.lt_of_lt_of_le h2 hs,fun i x hi j v hj=>(World.cell?_of_block (a:=⟨b,off+i*s+j,none⟩) (ho b hne)).trans (h3 i x hi j v hj)⟩
theorem RR.keep_but{w w':World}{b:RA}{S:Ro}{g:Nat}(h:RR w b S)(hp:∀q∈S.ks,pathB q.p=true)(hs:w.heap.size≤w'.heap.size)(ho:∀k,k≠g→w'.heap[k]?=w.heap[k]?)(h1:∀off A n c d,0<n→w.cell? ⟨g,off,none⟩=some (.slice A n c)→w.cell? ⟨g,off+1,none⟩=some (.bool d)→False)(h2:∀off s t d,w.cell? ⟨g,off,none⟩=some (.string s)→w.cell? ⟨g,off+1,none⟩=some (.string t)→w.cell? ⟨g,off+4,none⟩=some (.bool d)→False)(h3:∀off s,nameB s=true→w.cell? ⟨g,off,none⟩=some (.string s)→w'.cell? ⟨g,off,none⟩=some (.string s)):RR w' b S:=by
 refine⟨h.sp,?_,⟨h.cs.sr.keep_but hs ho fun b off hn _ hc e=>?_,h.cs.sz⟩⟩
 ·obtain⟨os,k⟩:=h.ks
  refine⟨os,k.sr.keep_but hs ho fun b off hn _ hc e=>?_,k.sz,k.ln,fun i o q hi hq=>⟨(k.el i o q hi hq).d,?_⟩⟩
  ·subst e
   have hl:0<os.length:=by have:=k.sr.ln;omega
   have hl2:0<S.ks.length:=by have:=k.ln;omega
   have e0:=List.getElem?_eq_getElem hl
   have e1:=List.getElem?_eq_getElem hl2
   have hln:=(k.el 0 _ _ e0 e1).st.sr.ln
   have hpp:=hp _ (List.getElem_mem hl2)
   simp only[pathB,Bool.and_eq_true,decide_eq_true_eq] at hpp
   exact h1 _ _ _ _ _ (by omega:0<(os[0]).n) (hc 0 _ e0 0 _ rfl) (hc 0 _ e0 1 _ rfl)
  ·have st:=(k.el i o q hi hq).st
   have hpp:=hp q (List.mem_of_getElem? hq)
   simp only[pathB,Bool.and_eq_true,List.all_eq_true] at hpp
   refine⟨⟨st.sr.ln,st.sr.lc,fun hn=>?_⟩,st.sz,st.el⟩
   obtain⟨b,off,e,hl,hc⟩:=st.sr.el hn
   refine⟨b,off,e,Nat.lt_of_lt_of_le hl hs,fun i x hi j v hj=>?_⟩
   by_cases hb:b=g
   ·subst hb
    cases j with
    | zero=>
     simp[recT] at hj
     subst hj
     exact h3 _ _ (hpp.2 x (List.mem_of_getElem? hi)) (hc i x hi 0 _ rfl)
    | succ j=>simp[recT] at hj
   ·exact(World.cell?_of_block (a:=⟨b,off+i*1+j,none⟩) (ho b hb)).trans (hc i x hi j v hj)
 ·subst e
  have hl:0<S.cs.length:=by have:=h.cs.ln;omega
  have e0:=List.getElem?_eq_getElem hl
  exact h2 _ _ _ _ (hc 0 _ e0 0 _ rfl) (hc 0 _ e0 1 _ rfl) (hc 0 _ e0 4 _ rfl)
theorem marr_bool{a:MA}{M:Mv}{i:Nat}{d:Bool}(h:(marr a M)[i]?=some (.bool d)):False:=by
 match i with
 | 0=>simp[marr] at h
 | 1=>simp[marr] at h
 | 2=>simp[marr] at h
 | 3=>simp[marr] at h
 | 4=>simp[marr] at h
 | 5=>simp[marr] at h
 | 6=>simp[marr] at h
 | 7=>simp[marr] at h
 | k+8=>simp[marr] at h
theorem marr_string{a:MA}{M:Mv}{i:Nat}{s:ByteArray}(h:(marr a M)[i]?=some (.string s)):i<3∧(s=M.sp∨s=M.lo∨s=M.hi):=by
 match i with
 | 0=>simp[marr] at h;exact⟨by omega,.inl h.symm⟩
 | 1=>simp[marr] at h;exact⟨by omega,.inr (.inl h.symm)⟩
 | 2=>simp[marr] at h;exact⟨by omega,.inr (.inr h.symm)⟩
 | 3=>simp[marr] at h
 | 4=>simp[marr] at h
 | 5=>simp[marr] at h
 | 6=>simp[marr] at h
 | 7=>simp[marr] at h
 | k+8=>simp[marr] at h
theorem RR.keep_mv{w w':World}{b:RA}{S:Ro}{g:Nat}{t:TypeId}{a:MA}{M:Mv}(h:RR w b S)(hp:∀q∈S.ks,pathB q.p=true)(hs:w.heap.size≤w'.heap.size)(ho:∀k,k≠g→w'.heap[k]?=w.heap[k]?)(B:Blk w g t (marr a M))(hk:True→(M.sp=ByteArray.empty∧M.lo=ByteArray.empty∧M.hi=ByteArray.empty)∨∀j,j<3→w'.cell? ⟨g,j,none⟩=w.cell? ⟨g,j,none⟩):RR w' b S:=by
 refine h.keep_but (g:=g) hp hs ho (fun off A n c d _ _ hd=>?_) (fun off s t d _ _ hd=>?_) fun off s hn hc=>?_
 ·rw[B.cell] at hd;exact marr_bool hd
 ·rw[B.cell] at hd;exact marr_bool hd
 ·have hc2:=hc
  rw[B.cell] at hc2
  obtain⟨h1,h2⟩:=marr_string hc2
  rcases hk trivial with⟨e1,e2,e3⟩|hk
  ·rw[e1,e2,e3] at h2
   have:s=ByteArray.empty:=by rcases h2 with h|h|h<;>exact h
   subst this
   exact absurd hn (by decide)
  ·rw[hk off h1];exact hc
theorem RR.keep_ro{w w':World}{b:RA}{S:Ro}{g:Nat}{t:TypeId}(h:RR w b S)(hp:∀q∈S.ks,pathB q.p=true)(hs:w.heap.size≤w'.heap.size)(ho:∀k,k≠g→w'.heap[k]?=w.heap[k]?)(B:Blk w g t (rarr RA.zero Ro.zero)):RR w' b S:=by
 refine h.keep_but (g:=g) hp hs ho (fun off A n c d hn hc _=>?_) (fun off s t d h1 h2 _=>?_) fun off s hn hc=>?_
 ·have:=zero_slice (zero_cell B hc);omega
 ·have c0:=zero_string (zero_cell B h1);have c1:=zero_string (zero_cell B h2);omega
 ·have:=(zero_string (zero_cell B hc)).2
  subst this
  exact absurd hn (by decide)
theorem commit_rr(M:Mv)(ma:MA)(R:Ro)(a:RA)(w:World)(h:RR w a R)(hst:M.st=2)(hcn:ma.cn=0)(hhn:ma.hn=0)(hg:(giveR R M.lo M.tt).2=0)(hp:∀q∈(giveR R M.lo M.tt).1.ks,pathB q.p=true):Calls Tryz.prog 23 #[mval ma M,rval a R] w
 fun e w'=>∃a1:RA,e=.returned (.tuple #[mval MA.zero ⟨M.sp,M.lo,M.hi,M.fr,M.tt,4,[],[]⟩,rval a1 (giveR R M.lo M.tt).1,.int .i64 0])∧RR w' a1 (giveR R M.lo M.tt).1∧Below w.heap.size w w':=by
 obtain⟨CA,cn,cc,HA,hn,hc2⟩:=ma
 obtain⟨sp,lo,hi,fr,tt,st,cp,ch⟩:=M
 simp only at hst hcn hhn hg hp ⊢
 subst hst hcn hhn
 have HR:=qD h
 have HG:=qD hg
 have HP0:=qD hp
 clear h hg hp
 obtain⟨wa,hwa⟩:∃wa,(((w.alloc (.cells (marr ⟨CA,0,cc,HA,0,hc2⟩ ⟨sp,lo,hi,fr,tt,2,cp,ch⟩) 35)).alloc (.cells (rarr a R) 27)).alloc (.cells (marr MA.zero Mv.zero) 35)).alloc (.cells (rarr RA.zero Ro.zero) 27)=wa:=⟨_,rfl⟩
 have B0:Hid (Blk wa w.heap.size 35 (marr ⟨CA,0,cc,HA,0,hc2⟩ ⟨sp,lo,hi,fr,tt,2,cp,ch⟩)):=by rw[←hwa];exact(((Blk.new_at rfl).alloc _).alloc _).alloc _
 have B1:Hid (Blk wa (w.heap.size+1) 27 (rarr a R)):=by rw[←hwa];exact((Blk.new_at (by simp)).alloc _).alloc _
 have B2:Hid (Blk wa (w.heap.size+2) 35 (marr MA.zero Mv.zero)):=by rw[←hwa];exact(Blk.new_at (by simp)).alloc _
 have B3:Hid (Blk wa (w.heap.size+3) 27 (rarr RA.zero Ro.zero)):=by rw[←hwa];exact Blk.new_at (by simp)
 have BE:Hid (Below w.heap.size w wa):=by rw[←hwa];exact((((Below.refl _ _).alloc (qL) _).alloc (by simp) _).alloc (by simp;omega) _).alloc (by simp;omega) _
 have HWA:=qD hwa
 clear hwa
 go_enter Tryz.func23,Tryz.ntmps23
 go_upto_region 1 with fail
 change Code.wp _ _ _ _ ((((w.alloc (.cells (marr ⟨CA,0,cc,HA,0,hc2⟩ ⟨sp,lo,hi,fr,tt,2,cp,ch⟩) 35)).alloc (.cells (rarr a R) 27)).alloc (.cells (marr MA.zero Mv.zero) 35)).alloc (.cells (rarr RA.zero Ro.zero) 27))
 rw[HWA.out]
 clear HWA
 have HGA:=qD (give_any R a lo tt wa (HR.out.step BE.out))
 obtain⟨m0,m1,m2,m3,m4,m5,m6,m7⟩:=blk_mv B0.out
 simp only at m6 m7
 go_wp2_with (refine wpList_load_row rfl 27 _ rfl (w.heap.size+1) rfl _ _ _ _ B1.out Tryz.underlying27 rfl (by rw[sizeR];rfl) ?_)
 refine HGA.out.mono ?_
 rintro e w1 ⟨a1,rfl,hrr,hb⟩
 rw[HG.out]
 have C0:=qD (B0.out.step hb)
 have C2:=qD (B2.out.step hb)
 have C3:=qD (B3.out.step hb)
 have CE:=qD (BE.out.step' hb)
 have HWL:Hid (w.heap.size+3<wa.heap.size):=B3.out.lt
 obtain⟨G,hG⟩:∃G,(giveR R lo tt).1=G:=⟨_,rfl⟩
 have RR1:Hid (RR w1 a1 G):=by rw[←hG];exact hrr
 have HP:Hid (∀q∈G.ks,pathB q.p=true):=by rw[←hG];exact HP0.out
 rw[hG]
 have HGG:=qD hG
 clear hG hrr HP0
 clear hb B0 B1 B2 B3 BE m0 m1 m2 m3 m4 m5 m6 m7 HGA HG
 go_upto_region 4 with fail
 change Code.wp _ _ _ _ (w1.alloc (.cells (rarr a1 G) 27))
 have D7:Hid (Blk (w1.alloc (.cells (rarr a1 G) 27)) w1.heap.size 27 (rarr a1 G)):=Blk.new_at rfl
 have D0:=qD (C0.out.alloc (.cells (rarr a1 G) 27))
 have D2:=qD (C2.out.alloc (.cells (rarr a1 G) 27))
 have D3:=qD (C3.out.alloc (.cells (rarr a1 G) 27))
 have DE:=qD (CE.out.alloc CE.out.size (Obj.cells (rarr a1 G) 27))
 have hg7:w.heap.size+3<w1.heap.size:=C3.out.lt
 have RR2:=qD (RR1.out.alloc (.cells (rarr a1 G) 27))
 clear RR1
 generalize w1.alloc (.cells (rarr a1 G) 27)=w2 at*
 generalize w1.heap.size=g7 at*
 clear C0 C2 C3 CE
 have hN:w.heap.size+3<w2.heap.size:=D3.out.lt
 obtain⟨m0,m1,m2,m3,m4,m5,m6,m7⟩:=blk_mv D0.out
 simp only at m6 m7
 have z6:=D0.out.frozen 6
 go_upto_region 7 with fail
 change Code.wp _ _ _ _ (w2.setCell ⟨w.heap.size,6,none⟩ (.slice none 0 0))
 have P0:Hid (Blk (w2.setCell ⟨w.heap.size,6,none⟩ (.slice none 0 0)) w.heap.size 35 #[.string sp,.string lo,.string hi,.int .i64 fr,.int .i64 tt,.int .i64 2,.slice none 0 0,.slice HA 0 hc2]):=D0.out.set_ 6 _
 have P2:=qD (D2.out.far (p:=⟨w.heap.size,6,none⟩) (by show w.heap.size+2≠w.heap.size;omega) (.slice none 0 0))
 have P3:=qD (D3.out.far (p:=⟨w.heap.size,6,none⟩) (by show w.heap.size+3≠w.heap.size;omega) (.slice none 0 0))
 have P7:=qD (D7.out.far (p:=⟨w.heap.size,6,none⟩) (by show g7≠w.heap.size;omega) (.slice none 0 0))
 have PE:=qD (DE.out.setCell (p:=⟨w.heap.size,6,none⟩) (qL) (.slice none 0 0))
 have RR3:Hid (RR (w2.setCell ⟨w.heap.size,6,none⟩ (.slice none 0 0)) a1 G):=RR2.out.keep_mv HP.out (by simp[World.setCell]) (fun b hb=>Below.heap_setCell _ _ _ b hb) D0.out (fun _=>.inr fun j hj=>by rw[World.cell?_setCell_other _ _ _ _ (by intro e;injection e with _ e;omega)])
 clear RR2 m0 m1 m2 m3 m4 m5 m6 m7 z6 D0 D2 D3 D7 DE
 generalize w2.setCell ⟨w.heap.size,6,none⟩ (.slice none 0 0)=w3 at*
 have m7:w3.cell? ⟨w.heap.size,7,none⟩=some (.slice HA 0 hc2):=P0.out.cell 7
 have z7:=P0.out.frozen 7
 go_upto_region 8 with fail
 change Code.wp _ _ _ _ (w3.setCell ⟨w.heap.size,7,none⟩ (.slice none 0 0))
 have Q0:Hid (Blk (w3.setCell ⟨w.heap.size,7,none⟩ (.slice none 0 0)) w.heap.size 35 (marr MA.zero ⟨sp,lo,hi,fr,tt,2,[],[]⟩)):=P0.out.set_ 7 _
 have Q2:=qD (P2.out.far (p:=⟨w.heap.size,7,none⟩) (by show w.heap.size+2≠w.heap.size;omega) (.slice none 0 0))
 have Q3:=qD (P3.out.far (p:=⟨w.heap.size,7,none⟩) (by show w.heap.size+3≠w.heap.size;omega) (.slice none 0 0))
 have Q7:=qD (P7.out.far (p:=⟨w.heap.size,7,none⟩) (by show g7≠w.heap.size;omega) (.slice none 0 0))
 have QE:=qD (PE.out.setCell (p:=⟨w.heap.size,7,none⟩) (qL) (.slice none 0 0))
 have RR4:Hid (RR (w3.setCell ⟨w.heap.size,7,none⟩ (.slice none 0 0)) a1 G):=RR3.out.keep_mv HP.out (by simp[World.setCell]) (fun b hb=>Below.heap_setCell _ _ _ b hb) (a:=⟨none,0,0,HA,0,hc2⟩) (M:=⟨sp,lo,hi,fr,tt,2,[],[]⟩) P0.out (fun _=>.inr fun j hj=>by rw[World.cell?_setCell_other _ _ _ _ (by intro e;injection e with _ e;omega)])
 clear RR3 m7 z7 P0 P2 P3 P7 PE
 generalize w3.setCell ⟨w.heap.size,7,none⟩ (.slice none 0 0)=w4 at*
 have m5:w4.cell? ⟨w.heap.size,5,none⟩=some (.int .i64 2):=Q0.out.cell 5
 have z5:=Q0.out.frozen 5
 go_upto_region 9 with fail
 change Code.wp _ _ _ _ (w4.setCell ⟨w.heap.size,5,none⟩ (.int .i64 4))
 have V0:Hid (Blk (w4.setCell ⟨w.heap.size,5,none⟩ (.int .i64 4)).drew w.heap.size 35 (marr ⟨none,0,0,none,0,0⟩ ⟨sp,lo,hi,fr,tt,4,[],[]⟩)):=Q0.out.set_ 5 _
 have V2:Hid (Blk (w4.setCell ⟨w.heap.size,5,none⟩ (.int .i64 4)).drew (w.heap.size+2) 35 (marr MA.zero Mv.zero)):=Q2.out.far (p:=⟨w.heap.size,5,none⟩) (by show w.heap.size+2≠w.heap.size;omega) (.int .i64 4)
 have V3:Hid (Blk (w4.setCell ⟨w.heap.size,5,none⟩ (.int .i64 4)).drew (w.heap.size+3) 27 (rarr RA.zero Ro.zero)):=Q3.out.far (p:=⟨w.heap.size,5,none⟩) (by show w.heap.size+3≠w.heap.size;omega) (.int .i64 4)
 have V7:Hid (Blk (w4.setCell ⟨w.heap.size,5,none⟩ (.int .i64 4)).drew g7 27 (rarr a1 G)):=Q7.out.far (p:=⟨w.heap.size,5,none⟩) (by show g7≠w.heap.size;omega) (.int .i64 4)
 have VE:Hid (Below w.heap.size w (w4.setCell ⟨w.heap.size,5,none⟩ (.int .i64 4)).drew):=(QE.out.setCell (p:=⟨w.heap.size,5,none⟩) (qL) (.int .i64 4)).drew
 have RV0:Hid (RR (w4.setCell ⟨w.heap.size,5,none⟩ (.int .i64 4)) a1 G):=RR4.out.keep_mv HP.out (by simp[World.setCell]) (fun b hb=>Below.heap_setCell _ _ _ b hb) Q0.out (fun _=>.inr fun j hj=>by rw[World.cell?_setCell_other _ _ _ _ (by intro e;injection e with _ e;omega)])
 have RV9:Hid (RR (w4.setCell ⟨w.heap.size,5,none⟩ (.int .i64 4)).drew a1 G):=RV0.out.step ((Below.refl _ _).drew)
 clear RV0 RR4 m5 z5 Q0 Q2 Q3 Q7 QE
 generalize w4.setCell ⟨w.heap.size,5,none⟩ (.int .i64 4)=w9 at*
 have RV:Hid (RR w9.drew a1 G):=RV9
 clear RV9
 refine wp_region_noPanic ?_
 refine wp_region_held_drew (S:=(fun w'=>Blk w' w.heap.size 35 (marr ⟨none,0,0,none,0,0⟩ ⟨sp,lo,hi,fr,tt,4,[],[]⟩)∧Blk w' g7 27 (rarr a1 G))) (by kernel_rfl) ?_ (fun hHeld=>?_)
 ·(try dsimp only);exact⟨V0.out,V7.out⟩
 generalize w9.drew=v0 at*
 refine rT (v:=.agg (marr ⟨none,0,0,none,0,0⟩ ⟨sp,lo,hi,fr,tt,4,[],[]⟩)) 0 rfl ?_ ?_
 ·intro w' hSw;exact exec_row rfl rfl hSw.1 Tryz.underlying35 rfl (by rw[sizeM];rfl)
 try go_frame
 refine rT (v:=.agg (rarr a1 G)) 1 rfl ?_ ?_
 ·intro w' hSw;exact exec_row rfl rfl hSw.2 Tryz.underlying27 rfl (by rw[sizeR];rfl)
 try go_frame
 refine rY 2 rfl fun K hK=>?_
 refine wp_store_row 35 _ _ rfl (w.heap.size+2) (marr ⟨none,0,0,none,0,0⟩ ⟨sp,lo,hi,fr,tt,4,[],[]⟩) rfl rfl 35 _ V2.out (by rw[sizeM];rfl) rfl (marr_all _ _) ?_
 have U2:=qD (Blk.row V2.out (marr ⟨none,0,0,none,0,0⟩ ⟨sp,lo,hi,fr,tt,4,[],[]⟩))
 have U0:=qD (Blk.row_far V0.out (by omega:w.heap.size≠w.heap.size+2) (marr ⟨none,0,0,none,0,0⟩ ⟨sp,lo,hi,fr,tt,4,[],[]⟩))
 have U3:=qD (Blk.row_far V3.out (by omega:w.heap.size+3≠w.heap.size+2) (marr ⟨none,0,0,none,0,0⟩ ⟨sp,lo,hi,fr,tt,4,[],[]⟩))
 have U7:=qD (Blk.row_far V7.out (by omega:g7≠w.heap.size+2) (marr ⟨none,0,0,none,0,0⟩ ⟨sp,lo,hi,fr,tt,4,[],[]⟩))
 have UE:=qD (below_row VE.out (by omega:w.heap.size≤w.heap.size+2) (marr ⟨none,0,0,none,0,0⟩ ⟨sp,lo,hi,fr,tt,4,[],[]⟩))
 have RV1:Hid (RR (v0.setRow (w.heap.size+2) (marr ⟨none,0,0,none,0,0⟩ ⟨sp,lo,hi,fr,tt,4,[],[]⟩)) a1 G):=RV.out.keep_mv HP.out (by rw[size_setRow];exact qL) (fun b hb=>setRow_other _ _ _ _ hb) V2.out (fun _=>.inl ⟨rfl,rfl,rfl⟩)
 clear V0 V2 V3 V7 VE
 generalize v0.setRow (w.heap.size+2) (marr ⟨none,0,0,none,0,0⟩ ⟨sp,lo,hi,fr,tt,4,[],[]⟩)=x1 at*
 clear hHeld
 refine hK.out _ _ ?_ fun hHeld=>?_
 ·(try dsimp only);exact⟨U0.out,U7.out⟩
 clear hK K
 try go_frame
 refine rY 3 rfl fun K hK=>?_
 refine wp_store_row 27 _ _ rfl (w.heap.size+3) (rarr a1 G) rfl rfl 27 _ U3.out (by rw[sizeR];rfl) rfl (rarr_all _ _) ?_
 have T3:=qD (Blk.row U3.out (rarr a1 G))
 have T0:=qD (Blk.row_far U0.out (by omega:w.heap.size≠w.heap.size+3) (rarr a1 G))
 have T2:=qD (Blk.row_far U2.out (by omega:w.heap.size+2≠w.heap.size+3) (rarr a1 G))
 have T7:=qD (Blk.row_far U7.out (by omega:g7≠w.heap.size+3) (rarr a1 G))
 have TE:=qD (below_row UE.out (by omega:w.heap.size≤w.heap.size+3) (rarr a1 G))
 have RV2:Hid (RR (x1.setRow (w.heap.size+3) (rarr a1 G)) a1 G):=RV1.out.keep_ro HP.out (by rw[size_setRow];exact qL) (fun b hb=>setRow_other _ _ _ _ hb) U3.out
 clear U0 U2 U3 U7 UE
 generalize x1.setRow (w.heap.size+3) (rarr a1 G)=x2 at*
 clear hHeld
 refine hK.out _ _ ?_ fun hHeld=>?_
 ·(try dsimp only);exact⟨T0.out,T7.out⟩
 clear hK K
 try go_frame
 refine rU 4 rfl ?_
 try go_frame
 refine rD ?_ _
 refine NoPanic.normal ?_
 all_goals
  go_wp2_with fail
  exact bodyPost_ret (results_commit rfl _ (w.heap.size+2) (w.heap.size+3) rfl rfl (.int .i64 0) rfl _ MA.zero ⟨sp,lo,hi,fr,tt,4,[],[]⟩ a1 G T2.out T3.out) rfl ⟨a1,by rw[HGG.out],by rw[HGG.out];exact RV2.out,TE.out⟩
theorem abort_no(M:Mv)(ma:MA)(w:World)(hst:M.st=5):Calls Tryz.prog 26 #[mval ma M] w
 fun e w'=>e=.returned (.tuple #[mval MA.zero Mv.zero,.int .i64 23])∧Below w.heap.size w w':=by
 obtain⟨sp,lo,hi,fr,tt,st,cp,ch⟩:=M
 simp only at hst
 subst hst
 obtain⟨wa,hwa⟩:∃wa,(w.alloc (.cells (marr ma ⟨sp,lo,hi,fr,tt,5,cp,ch⟩) 35)).alloc (.cells (marr MA.zero Mv.zero) 35)=wa:=⟨_,rfl⟩
 have B0:Hid (Blk wa w.heap.size 35 (marr ma ⟨sp,lo,hi,fr,tt,5,cp,ch⟩)):=by rw[←hwa];exact(Blk.new_at rfl).alloc _
 have B2:Hid (Blk wa (w.heap.size+1) 35 (marr MA.zero Mv.zero)):=by rw[←hwa];exact Blk.new_at (by simp)
 have BE:Hid (Below w.heap.size w wa):=by rw[←hwa];exact((Below.refl _ _).alloc (qL) _).alloc (by simp) _
 have HWA:=qD hwa
 clear hwa
 go_enter Tryz.func26,Tryz.ntmps26
 go_upto_region 1 with fail
 change Code.wp _ _ _ _ ((w.alloc (.cells (marr ma ⟨sp,lo,hi,fr,tt,5,cp,ch⟩) 35)).alloc (.cells (marr MA.zero Mv.zero) 35))
 rw[HWA.out]
 clear HWA
 have q5:wa.cell? ⟨w.heap.size,5,none⟩=some (.int .i64 5):=B0.out.cell 5
 go_wp2_with (refine wpList_store_row rfl 35 _ _ rfl (w.heap.size+1) (marr MA.zero Mv.zero) rfl rfl 35 _ B2.out (by rw[sizeM];rfl) rfl (marr_all _ _) ?_)
 refine bodyPost_ret (results_mv rfl _ (w.heap.size+1) rfl (.int .i64 23) rfl _ MA.zero Mv.zero (Blk.row B2.out _)) rfl ?_
 exact⟨rfl,below_row BE.out (by omega) _⟩
theorem abort_any(M:Mv)(ma:MA)(w:World)(h4:M.st≠4)(h5:M.st≠5):Calls Tryz.prog 26 #[mval ma M] w
 fun e w'=>e=.returned (.tuple #[mval MA.zero ⟨M.sp,M.lo,M.hi,M.fr,M.tt,5,[],[]⟩,.int .i64 0])∧Below w.heap.size w w':=by
 obtain⟨CA,cn,cc,HA,hn,hc2⟩:=ma
 obtain⟨sp,lo,hi,fr,tt,st,cp,ch⟩:=M
 simp only at h4 h5 ⊢
 obtain⟨wa,hwa⟩:∃wa,(w.alloc (.cells (marr ⟨CA,cn,cc,HA,hn,hc2⟩ ⟨sp,lo,hi,fr,tt,st,cp,ch⟩) 35)).alloc (.cells (marr MA.zero Mv.zero) 35)=wa:=⟨_,rfl⟩
 have B0:Hid (Blk wa w.heap.size 35 (marr ⟨CA,cn,cc,HA,hn,hc2⟩ ⟨sp,lo,hi,fr,tt,st,cp,ch⟩)):=by rw[←hwa];exact(Blk.new_at rfl).alloc _
 have B2:Hid (Blk wa (w.heap.size+1) 35 (marr MA.zero Mv.zero)):=by rw[←hwa];exact Blk.new_at (by simp)
 have BE:Hid (Below w.heap.size w wa):=by rw[←hwa];exact((Below.refl _ _).alloc (qL) _).alloc (by simp) _
 have HWA:=qD hwa
 clear hwa
 go_enter Tryz.func26,Tryz.ntmps26
 go_upto_region 1 with fail
 change Code.wp _ _ _ _ ((w.alloc (.cells (marr ⟨CA,cn,cc,HA,hn,hc2⟩ ⟨sp,lo,hi,fr,tt,st,cp,ch⟩) 35)).alloc (.cells (marr MA.zero Mv.zero) 35))
 rw[HWA.out]
 clear HWA
 have q5:wa.cell? ⟨w.heap.size,5,none⟩=some (.int .i64 st):=B0.out.cell 5
 have s4:(st==4)=false:=by simpa using h4
 have s5:(st==5)=false:=by simpa using h5
 go_upto_region 3 with fail
 clear q5 s4 s5 h4 h5
 have q6:=B0.out.cell 6
 have z6:=B0.out.frozen 6
 simp at q6
 go_upto_region 4 with fail
 change Code.wp _ _ _ _ (wa.setCell ⟨w.heap.size,6,none⟩ (.slice none 0 0))
 clear q6 z6
 have C0:Hid (Blk (wa.setCell ⟨w.heap.size,6,none⟩ (.slice none 0 0)) w.heap.size 35 (marr ⟨none,0,0,HA,hn,hc2⟩ ⟨sp,lo,hi,fr,tt,st,cp,ch⟩)):=B0.out.set_ 6 _
 have C2:=qD (B2.out.far (p:=⟨w.heap.size,6,none⟩) (by show w.heap.size+1≠w.heap.size;omega) (.slice none 0 0))
 have CE:=qD (BE.out.setCell (p:=⟨w.heap.size,6,none⟩) (qL) (.slice none 0 0))
 clear B0 B2 BE
 generalize wa.setCell ⟨w.heap.size,6,none⟩ (.slice none 0 0)=wb at*
 have q7:=C0.out.cell 7
 have z7:=C0.out.frozen 7
 simp at q7
 go_upto_region 5 with fail
 change Code.wp _ _ _ _ (wb.setCell ⟨w.heap.size,7,none⟩ (.slice none 0 0))
 clear q7 z7
 have D0:Hid (Blk (wb.setCell ⟨w.heap.size,7,none⟩ (.slice none 0 0)) w.heap.size 35 (marr MA.zero ⟨sp,lo,hi,fr,tt,st,[],[]⟩)):=C0.out.set_ 7 _
 have D2:=qD (C2.out.far (p:=⟨w.heap.size,7,none⟩) (by show w.heap.size+1≠w.heap.size;omega) (.slice none 0 0))
 have DE:=qD (CE.out.setCell (p:=⟨w.heap.size,7,none⟩) (qL) (.slice none 0 0))
 clear C0 C2 CE
 generalize wb.setCell ⟨w.heap.size,7,none⟩ (.slice none 0 0)=wc at*
 have q5:=D0.out.cell 5
 have z5:=D0.out.frozen 5
 simp at q5
 go_upto_region 6 with fail
 change Code.wp _ _ _ _ (wc.setCell ⟨w.heap.size,5,none⟩ (.int .i64 5))
 clear q5 z5
 have E0:Hid (Blk (wc.setCell ⟨w.heap.size,5,none⟩ (.int .i64 5)) w.heap.size 35 (marr MA.zero ⟨sp,lo,hi,fr,tt,5,[],[]⟩)):=D0.out.set_ 5 _
 have E2:=qD (D2.out.far (p:=⟨w.heap.size,5,none⟩) (by show w.heap.size+1≠w.heap.size;omega) (.int .i64 5))
 have EE:=qD (DE.out.setCell (p:=⟨w.heap.size,5,none⟩) (qL) (.int .i64 5))
 clear D0 D2 DE
 generalize wc.setCell ⟨w.heap.size,5,none⟩ (.int .i64 5)=wd at*
 go_wp2_with (first|(refine wpList_load_row rfl 35 _ rfl (w.heap.size) rfl _ _ _ _ E0.out Tryz.underlying35 rfl (by rw[sizeM];rfl) ?_)|(refine wpList_store_row rfl 35 _ _ rfl (w.heap.size+1) (marr MA.zero ⟨sp,lo,hi,fr,tt,5,[],[]⟩) rfl rfl 35 _ E2.out (by rw[sizeM];rfl) rfl (marr_all _ _) ?_))
 refine bodyPost_ret (results_mv rfl _ (w.heap.size+1) rfl (.int .i64 0) rfl _ MA.zero ⟨sp,lo,hi,fr,tt,5,[],[]⟩ (Blk.row E2.out _)) rfl ?_
 exact⟨rfl,below_row EE.out (by omega) _⟩
def StW(l m:List Wt):Prop:=∃S,Sorted (fun p q:Wt=>cmpV p.key q.key) (tagFrom 0 l) S∧S.map Prod.fst=m
theorem tagFrom_mapW{α β:Type}(f:α→β):∀(l:List α) (n:Nat),tagFrom n (l.map f)=(tagFrom n l).map fun p=>(f p.1,p.2)
 | [],_=>rfl
 | a::r,n=>by simp[tagFrom,tagFrom_mapW f r]
theorem StW.of{ps:List PW}{S:List (PW×Nat)}(h:Sorted (fun p q:PW=>cmpV p.2.key q.2.key) (tagFrom 0 ps) S):StW (ps.map Prod.snd) ((S.map Prod.fst).map Prod.snd):=by
 refine⟨S.map fun p=>(p.1.2,p.2),⟨?_,?_⟩,?_⟩
 ·rw[tagFrom_mapW]
  exact h.perm.map _
 ·rw[List.pairwise_map]
  exact h.ord
 ·rw[List.map_map,List.map_map]
  rfl
theorem StW.perm{l m:List Wt}(h:StW l m):m.Perm l:=by
 obtain⟨S,hs,rfl⟩:=h
 have h1:=hs.perm.map Prod.fst
 rwa [tagFrom_map] at h1
noncomputable def remL(R:Ro)(sp lo hi:ByteArray)(l:List Val):List Wt:=(l.filter (insD R lo hi)).map fun x=>remW sp (idV x)
theorem remL_snoc(R:Ro)(sp lo hi:ByteArray)(l:List Val)(x:Val):remL R sp lo hi (l++[x])=remL R sp lo hi l++(if insD R lo hi x=true then [remW sp (idV x)] else []):=by
 unfold remL
 rw[List.filter_append,List.map_append]
 congr 1
 cases h:insD R lo hi x<;>simp[h]
theorem sort0_any(A:Option Addr)(c:Nat)(w:World):Calls Tryz.prog 45 #[.slice A 0 c,.func (.func 46) #[] #[]] w fun e w'=>e=.returned (.tuple #[])∧w'=w:=by
 have HI:Hid (∀A:Option Addr,Calls Tryz.prog 97 #[.slice A 0 c,.int .i64 0,.int .i64 0,.func (.func 46) #[] #[]] w fun e w'=>e=.returned (.tuple #[])∧w'=w):=qD fun A=>by
  go_enter Tryz.func97,Tryz.ntmps97
  go_wp2_with fail
  go_loopw [8] (fun v8 wr=>v8=.int .i64 1∧wr=w) (fun _ _=>0)
  case atStart=>exact⟨rfl,rfl⟩
  case round=>
   obtain⟨rfl,rfl⟩:=hrel
   go_wp2_with fail
   go_end0
   exact⟨rfl,rfl⟩
 have HS:Hid (∀A:Option Addr,Calls Tryz.prog 69 #[.slice A 0 c,.int .i64 0,.func (.func 46) #[] #[]] w fun e w'=>e=.returned (.tuple #[])∧w'=w):=qD fun A=>by
  go_enter Tryz.func69,Tryz.ntmps69
  go_wp2_with fail
  go_loopw [7,8] (fun v7 v8 wr=>v7=.int .i64 0∧v8=.int .i64 20∧wr=w) (fun _ _ _=>0)
  case atStart=>exact⟨rfl,rfl,rfl⟩
  case round=>
   obtain⟨rfl,rfl,rfl⟩:=hrel
   go_wp2_with fail
   refine(HI.out A).mono ?_
   rintro e w1 ⟨rfl,rfl⟩
   go_wp2_with fail
   go_loopw [6] (fun v6 wr=>v6=.int .i64 20∧wr=w1) (fun _ _=>0)
   case atStart=>exact⟨rfl,rfl⟩
   case round=>
    obtain⟨rfl,rfl⟩:=hrel
    go_wp2_with fail
    go_end0
    exact⟨rfl,rfl⟩
 go_enter Tryz.func45,Tryz.ntmps45
 go_wp2_with fail
 refine(HS.out A).mono ?_
 rintro e w1 ⟨rfl,rfl⟩
 go_wp2_with fail
 go_end0
 exact⟨rfl,rfl⟩
def NoOrph(w:World)(e:Ending)(w':World):Prop:=e=.returned (.slice none 0 0)∧Below w.heap.size w w'
theorem orph_no(M:Mv)(ma:MA)(R:Ro)(a:RA)(DA:Option Addr)(dn dc:Nat)(w:World)(h4:M.st≠4)(h5:M.st≠5):
 Calls Tryz.prog 28 #[mval ma M,rval a R,.slice DA dn dc] w (NoOrph w):=by
 obtain⟨wa,hwa⟩:∃wa,(w.alloc (.cells (marr ma M) 35)).alloc (.cells (rarr a R) 27)=wa:=⟨_,rfl⟩
 have B0:Hid (Blk wa w.heap.size 35 (marr ma M)):=by rw[←hwa];exact(Blk.new_at rfl).alloc _
 have BE:Hid (Below w.heap.size w wa):=by rw[←hwa];exact((Below.refl _ _).alloc (qL) _).alloc (by simp) _
 have HWA:=qD hwa
 clear hwa
 go_enter Tryz.func28,Tryz.ntmps28
 go_upto_region 1 with fail
 change Code.wp _ _ _ _ ((w.alloc (.cells (marr ma M) 35)).alloc (.cells (rarr a R) 27))
 rw[HWA.out]
 clear HWA
 have q5:wa.cell? ⟨w.heap.size,5,none⟩=some (.int .i64 M.st):=B0.out.cell 5
 have s4:(M.st != 4)=true:=by simpa using h4
 have s5:(M.st != 5)=true:=by simpa using h5
 go_wp2_with fail
 go_ret
 exact⟨rfl,BE.out⟩
def OrphOk(R:Ro)(M:Mv)(L:List Val)(w:World)(e:Ending)(w':World):Prop:=
 ∃(A:Option Addr) (n c:Nat) (ps:List PW),e=.returned (.slice A n c)∧StW (remL R M.sp M.lo M.hi L) (ps.map Prod.snd)∧WS (fun _=>True) w' A n c ps∧Below w.heap.size w w'
theorem RW1.but{w w':World}{g:Nat}{v:Value}{c:WC}{x:Wt}(h:RW1 (fun b=>v.ownBlock≠some b) w c x)(hv:v.ownBlock=some g)(hb:But g w w'):RW1 (fun _=>True) w' c x:=
 h.keepG fun b hF hl=>⟨trivial,hb.block b hl fun e=>hF (by rw[e];exact hv)⟩
theorem tagFrom_of(ps:List PW)(k:Nat):(tagFrom k ps).map Prod.fst=ps:=tagFrom_map ps k
theorem flat_tags(L:List (PW×Nat)):flat recTW L=flat recW (L.map Prod.fst):=by
 unfold flat
 rw[List.flatMap_map]
 rfl
theorem tagFrom_lenW(ps:List PW):∀k,(tagFrom k ps).length=ps.length:=by
 induction ps with
 | nil=>intro k;rfl
 | cons a r ih=>intro k;simp[tagFrom,ih]
theorem orph_any(M:Mv)(ma:MA)(R:Ro)(a:RA)(ds:List PV)(DA:Option Addr)(dn dc:Nat)(w:World)(hT:Tabs w)(h:RR w a R)(h8:R.ks.length≤8)(hd:SL (fun _=>True) w DA dn dc ds)(h20:dn≤20)(hsp:M.sp.size≤reach)(h4:M.st=4):
 Calls Tryz.prog 28 #[mval ma M,rval a R,.slice DA dn dc] w (OrphOk R M (ds.map Prod.snd) w):=by
 obtain⟨j0,hj0,hw0,hw1,hw2⟩:=info_parts info_write
 have HT:=qD hT
 have HR:=qD h
 have H8:=qD h8
 have HD:=qD hd
 have HSP:=qD hsp
 have HDL:Hid (dn=ds.length):=hd.sr.ln
 clear hT h h8 hd hsp
 obtain⟨wa,hwa⟩:∃wa,(w.alloc (.cells (marr ma M) 35)).alloc (.cells (rarr a R) 27)=wa:=⟨_,rfl⟩
 have B0:Hid (Blk wa w.heap.size 35 (marr ma M)):=by rw[←hwa];exact(Blk.new_at rfl).alloc _
 have B1:Hid (Blk wa (w.heap.size+1) 27 (rarr a R)):=by rw[←hwa];exact Blk.new_at (by simp)
 have BE:Hid (Below w.heap.size w wa):=by rw[←hwa];exact((Below.refl _ _).alloc (qL) _).alloc (by simp) _
 have HWA:=qD hwa
 clear hwa
 go_enter Tryz.func28,Tryz.ntmps28
 go_upto_region 1 with fail
 change Code.wp _ _ _ _ ((w.alloc (.cells (marr ma M) 35)).alloc (.cells (rarr a R) 27))
 rw[HWA.out]
 clear HWA
 have q5:wa.cell? ⟨w.heap.size,5,none⟩=some (.int .i64 4):=by rw[←h4];exact B0.out.cell 5
 clear h4
 go_wp2_with fail
 clear q5
 go_loopw [7,22] (fun u7 u22 wr=>∃(i:Nat) (ps:List PW),i≤dn∧u22=.int .i64 i∧ps.map Prod.snd=remL R M.sp M.lo M.hi ((ds.map Prod.snd).take i)∧ps.length≤i∧WsI wa.heap.size wa u7 ps wr) (fun _ u22 _=>dn-(intOf u22).toNat)
 case atStart=>exact⟨0,[],Nat.zero_le _,rfl,rfl,qL,WsI.start wa⟩
 case round=>
  obtain⟨i,ps,hile,rfl,hps,hpl,hvs⟩:=hrel
  have HPS:=qD hps
  have VS:=qD hvs
  clear hps hvs
  by_cases hlt:i<dn
  ·obtain⟨p,hp⟩:∃p,ds[i]?=some p:=⟨_,List.getElem?_eq_getElem (by have:=HDL.out;omega)⟩
   have HPi:=qD hp
   have HBR:=qD (BE.out.step' VS.out.bel)
   obtain⟨b,off,rfl,_,hu,hr⟩:=(HD.out.step HBR.out).vat hp
   have HPR:=qD hr
   obtain⟨a0,a1,a2,a3,a4⟩:=hu
   have i0':(0:Int)≤(i:Int):=by omega
   have i1':(i:Int)<(dn:Int):=by omega
   clear hp hr
   go_upto_region 7 with fail
   change Code.wp _ _ _ _ (wr.alloc (.cells p.1.arr 45))
   have G9:Hid (Blk (wr.alloc (.cells p.1.arr 45)) wr.heap.size 45 p.1.arr):=Blk.new_at rfl
   have V1:=qD (VS.out.step ((Below.refl wr.heap.size wr).alloc (qL) (Obj.cells p.1.arr 45)))
   have PR1:Hid (RW (wr.alloc (.cells p.1.arr 45)) p.1 p.2):=HPR.out.alloc _
   clear VS HPR a0 a1 a2 a3 a4 HBR
   generalize wr.alloc (.cells p.1.arr 45)=wb at*
   generalize wr.heap.size=g9 at*
   obtain⟨b0,b1,b2,b3,b4⟩:=VAt.of_blk G9.out
   simp only[Nat.zero_add] at b0 b1 b2 b3 b4
   have BM1:=qD (B0.out.step V1.out.bel)
   obtain⟨q0,q1,q2,q3,q4,q5,qz⟩:=blk_ro (B1.out.step V1.out.bel)
   obtain⟨ib,hib⟩:∃ib,insD R M.lo M.hi p.2=ib:=⟨_,rfl⟩
   have HIN:=inside_any M ma R a p.2 p.1 wb (HT.out.step (BE.out.step' V1.out.bel)) (HR.out.step (BE.out.step' V1.out.bel)) PR1.out H8.out
   rw[hib] at HIN
   have HIN2:=qD HIN
   have HTK:Hid (remL R M.sp M.lo M.hi ((ds.map Prod.snd).take (i+1))=ps.map Prod.snd++(if ib=true then [remW M.sp (idV p.2)] else [])):=by
    rw[Hid,take_snoc' (show(ds.map Prod.snd)[i]?=some p.2 by rw[List.getElem?_map,HPi.out];rfl),remL_snoc,←HPS.out,hib]
   clear hib HIN
   go_wp2_with (refine wpList_load_row rfl 35 _ rfl w.heap.size rfl _ _ _ _ BM1.out Tryz.underlying35 rfl (by rw[sizeM];rfl) ?_)
   refine HIN2.out.mono ?_
   rintro e wc ⟨rfl,hb⟩
   have V2:=qD (V1.out.step hb)
   have G2:=qD (G9.out.step hb)
   have PR2:=qD (PR1.out.step hb)
   clear hb V1 G9 PR1 BM1 HIN2 b0 b1 b2 b3 b4 q0 q1 q2 q3 q4 q5 qz
   cases ib
   ·have HT2:Hid (remL R M.sp M.lo M.hi ((ds.map Prod.snd).take (i+1))=ps.map Prod.snd):=HTK.out.trans (List.append_nil _)
    go_wp2_with fail
    go_roundw
    case rel=>exact⟨i+1,ps,by omega,by go_num,HT2.out.symm,by omega,V2.out⟩
    case measure=>simp[intOf];omega
   ·have HT2:Hid (remL R M.sp M.lo M.hi ((ds.map Prod.snd).take (i+1))=ps.map Prod.snd++[remW M.sp (idV p.2)]):=HTK.out
    obtain⟨b0,b1,b2,b3,b4⟩:=VAt.of_blk G2.out
    simp only[Nat.zero_add] at b0 b1 b2 b3 b4
    have HG:=qD (get_any p.2 p.1 idB wc PR2.out)
    go_wp2_with fail
    refine HG.out.mono ?_
    rintro e wd ⟨c,rfl,hr,hb⟩
    have V3:=qD (V2.out.step hb)
    have RC:Hid (RW wd c (idV p.2)):=hr.mono fun _ _=>trivial
    clear hr hb V2 HG b0 b1 b2 b3 b4
    go_upto_region 9 with fail
    change Code.wp _ _ _ _ (wd.alloc (.cells c.arr 45))
    have G3:Hid (Blk (wd.alloc (.cells c.arr 45)) wd.heap.size 45 c.arr):=Blk.new_at rfl
    have V4:=qD (V3.out.step ((Below.refl wd.heap.size wd).alloc (qL) (Obj.cells c.arr 45)))
    have RC2:Hid (RW (wd.alloc (.cells c.arr 45)) c (idV p.2)):=RC.out.alloc _
    clear V3 RC
    generalize wd.alloc (.cells c.arr 45)=we at*
    generalize wd.heap.size=g10 at*
    obtain⟨b0,b1,b2,b3,b4⟩:=VAt.of_blk G3.out
    simp only[Nat.zero_add] at b0 b1 b2 b3 b4
    have BM1:=qD (B0.out.step V4.out.bel)
    have HRM:=qD (remove_any M ma (idV p.2) c we HSP.out RC2.out)
    go_wp2_with (refine wpList_load_row rfl 35 _ rfl w.heap.size rfl _ _ _ _ BM1.out Tryz.underlying35 rfl (by rw[sizeM];rfl) ?_)
    refine HRM.out.mono ?_
    rintro e wf ⟨wc1,rfl,hr,hb⟩
    have V5:=qD (V4.out.step hb)
    have RP:Hid (RW1 (fun b=>Value.ownBlock u7≠some b) wf wc1 (remW M.sp (idV p.2))):=hr.mono fun b hb2 e=>by have:=own_lt V4.out.own e;omega
    clear hr hb V4 RC2 BM1 HRM b0 b1 b2 b3 b4 G3
    have V6:=qD (V5.out.step ((Below.refl wf.heap.size wf).alloc (qL) (Obj.cells (recC78 wc1).toArray 67)))
    have RP2:=qD (RP.out.alloc (.cells (recC78 wc1).toArray 67))
    have N2:Hid (Blk (wf.alloc (.cells (recC78 wc1).toArray 67)) wf.heap.size 67 (recC78 wc1).toArray):=Blk.new_at rfl
    have HLO6:Hid (wa.heap.size≤(wf.alloc (.cells (recC78 wc1).toArray 67)).heap.size):=V6.out.bel.size
    have hpl3:ps.length≤20:=by omega
    go_wp2_with (first
     | (refine wpList_buildSlice rfl 33 67 1 _ rfl (recC78 wc1).toArray j0 _ Tryz.underlying33 hj0 hw0 (by rw[hw1];decide) (by rw[hw1];decide) (by rw[hw1];exact build_write rfl) ?_)
     | (at_builtin;refine wpList_append_any _ rfl _ _ 33 rfl wa.heap.size 67 j0 _ 78 1168 Tryz.underlying33 hj0 hw0 hw1 hw2 rfl (by decide) u7 ps.length (flat recW ps) rfl V6.out.own _ _ 1 _ (recC78 wc1) rfl (reads_one N2.out N2.out.lt) (recC78_one wc1) (by unfold maxLen;omega) (by omega) HLO6.out ?_))
    intro v' wh hown hgr hat
    have HI:=qD (V6.out.add (p:=(wc1,remW M.sp (idV p.2))) RP2.out rfl hown hgr (by rw[size_alloc];exact hat))
    clear hown hgr hat V5 V6 RP RP2 N2 HLO6
    go_wp2_with fail
    go_roundw
    case rel=>exact⟨i+1,ps++[(wc1,remW M.sp (idV p.2))],by omega,by go_num,by rw[List.map_append];exact HT2.out.symm,by simp;omega,HI.out⟩
    case measure=>simp[intOf];omega
  ·have hik:dn=i:=by omega
   subst hik
   have HALL:Hid (ps.map Prod.snd=remL R M.sp M.lo M.hi (ds.map Prod.snd)):=by
    have:=HPS.out
    rwa [List.take_of_length_le (by rw[List.length_map,HDL.out];exact qL)] at this
   have hpl2:ps.length≤20:=by omega
   have HBR:=qD (BE.out.step' VS.out.bel)
   by_cases h0:ps.length=0
   ·have hps0:ps=[]:=List.eq_nil_of_length_eq_zero h0
    subst hps0
    obtain⟨A0,c0,hu7,hc0⟩:=own_slice VS.out.own
    subst hu7
    have HST:Hid (StW (remL R M.sp M.lo M.hi (ds.map Prod.snd)) []):=by rw[Hid,←HALL.out];exact⟨[],Sorted.nil,rfl⟩
    clear VS h0
    go_wp2_with fail
    refine(sort0_any A0 c0 wr).mono ?_
    rintro e w1 ⟨rfl,rfl⟩
    go_wp2_with fail
    go_ret
    exact⟨A0,0,c0,[],rfl,HST.out,⟨SR.nil,by decide,fun p hp=>by simp at hp⟩,HBR.out⟩
   ·obtain⟨g,cap,cur,hu7,hge,hcur,hncap,hcm,hcs,hct⟩:∃g cap cur,u7=.slice (some ⟨g,0,none⟩) ps.length cap∧wa.heap.size≤g∧wr.heap[g]?=some (.cells cur 67 (0,0))∧ps.length≤cap∧cap≤maxLen∧cur.size=cap*78∧cur.toList.take (ps.length*78)=flat recW ps:=by
     rcases VS.out.own.2 with⟨_,h⟩|h
     ·exact absurd h h0
     ·exact h
    have HRV:=qD VS.out.rv
    have HOB:Hid (u7.ownBlock=some g):=by rw[Hid,hu7];rfl
    have HROW:Hid (SRowW wr g (tagFrom 0 ps)):=by
     refine⟨cur.toList.drop (ps.length*78),?_⟩
     rw[flat_tags,tagFrom_of,←hct,List.take_append_drop]
     exact hcur
    have HCM:Hid (CmpOkW g wr (tagFrom 0 ps)):=qD fun x y hx hy w2 hb=>by
     have hx2:x.1∈ps:=by have:=List.mem_map_of_mem (f:=Prod.fst) hx;rwa [tagFrom_of] at this
     have hy2:y.1∈ps:=by have:=List.mem_map_of_mem (f:=Prod.fst) hy;rwa [tagFrom_of] at this
     exact orph1_any x.1 y.1 w2 ((HRV.out x.1 hx2).but HOB.out hb).key ((HRV.out y.1 hy2).but HOB.out hb).key
    have HSO:=qD (sortStableW_any (tagFrom 0 ps) g ps.length cap wr HROW.out (tagFrom_lenW ps 0).symm (by omega) (tagFrom_tagged ps 0) HCM.out)
    have HGE:=qD hge
    have HOB2:=HOB
    clear HOB
    have HU:=qD hu7
    have HRV2:Hid (∀p∈ps,∀w2,But g wr w2→RW1 (fun _=>True) w2 p.1 p.2):=qD fun p hp w2 hb=>(HRV.out p hp).but HOB2.out hb
    clear VS h0 hge hcur hcs hct HROW HCM HRV HOB2 hcm
    have hu8:=HU.out
    clear HU hu7
    subst hu8
    go_wp2_with fail
    refine HSO.out.mono ?_
    rintro e w1 ⟨rfl,S,hS,hI⟩
    rw[List.nil_append,List.append_nil] at hI
    have HI:=qD hI
    have HSS:=qD hS
    clear hS hI HSO
    go_wp2_with fail
    go_ret
    have hl:S.length=ps.length:=by rw[HSS.out.perm.length_eq,tagFrom_lenW]
    have hmem:∀p∈S.map Prod.fst,p∈ps:=fun p hp=>by
     have h1:=(HSS.out.perm.map Prod.fst).mem_iff.1 hp
     rwa [tagFrom_of] at h1
    refine⟨some ⟨g,0,none⟩,ps.length,cap,S.map Prod.fst,rfl,?_,⟨⟨by rw[List.length_map,hl],hncap,fun _=>⟨g,0,rfl,?_,fun i p hi j v hj=>?_⟩⟩,by unfold reach;omega,fun p hp=>HRV2.out p (hmem p hp) w1 HI.out.but⟩,?_⟩
    ·rw[←HALL.out]
     exact StW.of HSS.out
    ·have:=HI.out.row
     obtain⟨X,hX⟩:=this
     exact hX.lt
    ·rw[List.getElem?_map] at hi
     obtain⟨q,hq,rfl⟩:=Option.map_eq_some_iff.1 hi
     rw[Nat.zero_add]
     exact SRowW.range HI.out.row hq j v hj
    ·exact HBR.out.trans (HI.out.but.below HBR.out.size (by have:=HGE.out;have:=BE.out.size;omega))
theorem mgcopy_ref(M:Mv)(ma:MA)(R:Ro)(a:RA)(DA:Option Addr)(dn dc:Nat)(w:World)(hst:M.st≠1):
 Calls Tryz.prog 14 #[mval ma M,rval a R,.slice DA dn dc] w fun e w'=>e=.returned (.tuple #[mval MA.zero Mv.zero,.int .i64 23])∧Below w.heap.size w w':=by
 obtain⟨sp,lo,hi,fr,tt,st,cp,ch⟩:=M
 simp only at hst
 obtain⟨wa,hwa⟩:∃wa,((w.alloc (.cells (marr ma ⟨sp,lo,hi,fr,tt,st,cp,ch⟩) 35)).alloc (.cells (rarr a R) 27)).alloc (.cells (marr MA.zero Mv.zero) 35)=wa:=⟨_,rfl⟩
 have B0:Hid (Blk wa w.heap.size 35 (marr ma ⟨sp,lo,hi,fr,tt,st,cp,ch⟩)):=by rw[←hwa];exact((Blk.new_at rfl).alloc _).alloc _
 have B2:Hid (Blk wa (w.heap.size+2) 35 (marr MA.zero Mv.zero)):=by rw[←hwa];exact Blk.new_at (by simp)
 have BE:Hid (Below w.heap.size w wa):=by rw[←hwa];exact(((Below.refl _ _).alloc (qL) _).alloc (by simp) _).alloc (by simp;omega) _
 have HWA:=qD hwa
 clear hwa
 go_enter Tryz.func14,Tryz.ntmps14
 go_upto_region 1 with fail
 change Code.wp _ _ _ _ (((w.alloc (.cells (marr ma ⟨sp,lo,hi,fr,tt,st,cp,ch⟩) 35)).alloc (.cells (rarr a R) 27)).alloc (.cells (marr MA.zero Mv.zero) 35))
 rw[HWA.out]
 clear HWA
 have q5:wa.cell? ⟨w.heap.size,5,none⟩=some (.int .i64 st):=B0.out.cell 5
 have s1:(st != 1)=true:=by simpa using hst
 go_wp2_with (refine wpList_store_row rfl 35 _ _ rfl (w.heap.size+2) (marr MA.zero Mv.zero) rfl rfl 35 _ B2.out (by rw[sizeM];rfl) rfl (marr_all _ _) ?_)
 refine bodyPost_ret (results_mv rfl _ (w.heap.size+2) rfl (.int .i64 23) rfl _ MA.zero Mv.zero (Blk.row B2.out _)) rfl ?_
 exact⟨rfl,below_row BE.out (by omega) _⟩
theorem abort_ref(M:Mv)(ma:MA)(w:World)(hst:M.st=4∨M.st=5):Calls Tryz.prog 26 #[mval ma M] w
 fun e w'=>e=.returned (.tuple #[mval MA.zero Mv.zero,.int .i64 23])∧Below w.heap.size w w':=by
 obtain⟨sp,lo,hi,fr,tt,st,cp,ch⟩:=M
 simp only at hst
 obtain⟨wa,hwa⟩:∃wa,(w.alloc (.cells (marr ma ⟨sp,lo,hi,fr,tt,st,cp,ch⟩) 35)).alloc (.cells (marr MA.zero Mv.zero) 35)=wa:=⟨_,rfl⟩
 have B0:Hid (Blk wa w.heap.size 35 (marr ma ⟨sp,lo,hi,fr,tt,st,cp,ch⟩)):=by rw[←hwa];exact(Blk.new_at rfl).alloc _
 have B2:Hid (Blk wa (w.heap.size+1) 35 (marr MA.zero Mv.zero)):=by rw[←hwa];exact Blk.new_at (by simp)
 have BE:Hid (Below w.heap.size w wa):=by rw[←hwa];exact((Below.refl _ _).alloc (qL) _).alloc (by simp) _
 have HWA:=qD hwa
 clear hwa
 go_enter Tryz.func26,Tryz.ntmps26
 go_upto_region 1 with fail
 change Code.wp _ _ _ _ ((w.alloc (.cells (marr ma ⟨sp,lo,hi,fr,tt,st,cp,ch⟩) 35)).alloc (.cells (marr MA.zero Mv.zero) 35))
 rw[HWA.out]
 clear HWA
 have q5:wa.cell? ⟨w.heap.size,5,none⟩=some (.int .i64 st):=B0.out.cell 5
 rcases hst with rfl|rfl
 ·go_wp2_with (refine wpList_store_row rfl 35 _ _ rfl (w.heap.size+1) (marr MA.zero Mv.zero) rfl rfl 35 _ B2.out (by rw[sizeM];rfl) rfl (marr_all _ _) ?_)
  refine bodyPost_ret (results_mv rfl _ (w.heap.size+1) rfl (.int .i64 23) rfl _ MA.zero Mv.zero (Blk.row B2.out _)) rfl ?_
  exact⟨rfl,below_row BE.out (by omega) _⟩
 ·go_wp2_with (refine wpList_store_row rfl 35 _ _ rfl (w.heap.size+1) (marr MA.zero Mv.zero) rfl rfl 35 _ B2.out (by rw[sizeM];rfl) rfl (marr_all _ _) ?_)
  refine bodyPost_ret (results_mv rfl _ (w.heap.size+1) rfl (.int .i64 23) rfl _ MA.zero Mv.zero (Blk.row B2.out _)) rfl ?_
  exact⟨rfl,below_row BE.out (by omega) _⟩
theorem commit_ref(M:Mv)(ma:MA)(R:Ro)(a:RA)(w:World)(hst:M.st≠2):Calls Tryz.prog 23 #[mval ma M,rval a R] w
 fun e w'=>e=.returned (.tuple #[mval MA.zero Mv.zero,rval RA.zero Ro.zero,.int .i64 23])∧Below w.heap.size w w':=by
 obtain⟨sp,lo,hi,fr,tt,st,cp,ch⟩:=M
 simp only at hst
 obtain⟨wa,hwa⟩:∃wa,(((w.alloc (.cells (marr ma ⟨sp,lo,hi,fr,tt,st,cp,ch⟩) 35)).alloc (.cells (rarr a R) 27)).alloc (.cells (marr MA.zero Mv.zero) 35)).alloc (.cells (rarr RA.zero Ro.zero) 27)=wa:=⟨_,rfl⟩
 have B0:Hid (Blk wa w.heap.size 35 (marr ma ⟨sp,lo,hi,fr,tt,st,cp,ch⟩)):=by rw[←hwa];exact(((Blk.new_at rfl).alloc _).alloc _).alloc _
 have B2:Hid (Blk wa (w.heap.size+2) 35 (marr MA.zero Mv.zero)):=by rw[←hwa];exact(Blk.new_at (by simp)).alloc _
 have B3:Hid (Blk wa (w.heap.size+3) 27 (rarr RA.zero Ro.zero)):=by rw[←hwa];exact Blk.new_at (by simp)
 have BE:Hid (Below w.heap.size w wa):=by rw[←hwa];exact((((Below.refl _ _).alloc (qL) _).alloc (by simp) _).alloc (by simp;omega) _).alloc (by simp;omega) _
 have HWA:=qD hwa
 clear hwa
 go_enter Tryz.func23,Tryz.ntmps23
 go_upto_region 1 with fail
 change Code.wp _ _ _ _ ((((w.alloc (.cells (marr ma ⟨sp,lo,hi,fr,tt,st,cp,ch⟩) 35)).alloc (.cells (rarr a R) 27)).alloc (.cells (marr MA.zero Mv.zero) 35)).alloc (.cells (rarr RA.zero Ro.zero) 27))
 rw[HWA.out]
 clear HWA
 have q5:wa.cell? ⟨w.heap.size,5,none⟩=some (.int .i64 st):=B0.out.cell 5
 have s1:(st != 2)=true:=by simpa using hst
 have B3R:=qD (Blk.row_far B3.out (by omega:w.heap.size+3≠w.heap.size+2) (marr MA.zero Mv.zero))
 go_wp2_with (first|(refine wpList_store_row rfl 35 _ _ rfl (w.heap.size+2) (marr MA.zero Mv.zero) rfl rfl 35 _ B2.out (by rw[sizeM];rfl) rfl (marr_all _ _) ?_)|(refine wpList_store_row rfl 27 _ _ rfl (w.heap.size+3) (rarr RA.zero Ro.zero) rfl rfl 27 _ B3R.out (by rw[sizeR];rfl) rfl (rarr_all _ _) ?_))
 exact bodyPost_ret (results_commit rfl _ (w.heap.size+2) (w.heap.size+3) rfl rfl (.int .i64 23) rfl _ MA.zero Mv.zero RA.zero Ro.zero (Blk.row_far (Blk.row B2.out _) (by omega) _) (Blk.row B3R.out _)) rfl ⟨rfl,below_row (below_row BE.out (by omega) _) (by omega) _⟩
theorem commit_refC(M:Mv)(ma:MA)(R:Ro)(a:RA)(w:World)(hst:M.st=2)(hcn:0<ma.cn):Calls Tryz.prog 23 #[mval ma M,rval a R] w
 fun e w'=>e=.returned (.tuple #[mval MA.zero Mv.zero,rval RA.zero Ro.zero,.int .i64 23])∧Below w.heap.size w w':=by
 obtain⟨sp,lo,hi,fr,tt,st,cp,ch⟩:=M
 obtain⟨CA,cn,cc,HA,hn,hc2⟩:=ma
 simp only at hst hcn
 subst hst
 have hci:(0:Int)<(cn:Int):=by omega
 obtain⟨wa,hwa⟩:∃wa,(((w.alloc (.cells (marr ⟨CA,cn,cc,HA,hn,hc2⟩ ⟨sp,lo,hi,fr,tt,2,cp,ch⟩) 35)).alloc (.cells (rarr a R) 27)).alloc (.cells (marr MA.zero Mv.zero) 35)).alloc (.cells (rarr RA.zero Ro.zero) 27)=wa:=⟨_,rfl⟩
 have B0:Hid (Blk wa w.heap.size 35 (marr ⟨CA,cn,cc,HA,hn,hc2⟩ ⟨sp,lo,hi,fr,tt,2,cp,ch⟩)):=by rw[←hwa];exact(((Blk.new_at rfl).alloc _).alloc _).alloc _
 have B2:Hid (Blk wa (w.heap.size+2) 35 (marr MA.zero Mv.zero)):=by rw[←hwa];exact(Blk.new_at (by simp)).alloc _
 have B3:Hid (Blk wa (w.heap.size+3) 27 (rarr RA.zero Ro.zero)):=by rw[←hwa];exact Blk.new_at (by simp)
 have BE:Hid (Below w.heap.size w wa):=by rw[←hwa];exact((((Below.refl _ _).alloc (qL) _).alloc (by simp) _).alloc (by simp;omega) _).alloc (by simp;omega) _
 have HWA:=qD hwa
 clear hwa
 go_enter Tryz.func23,Tryz.ntmps23
 go_upto_region 1 with fail
 change Code.wp _ _ _ _ ((((w.alloc (.cells (marr ⟨CA,cn,cc,HA,hn,hc2⟩ ⟨sp,lo,hi,fr,tt,2,cp,ch⟩) 35)).alloc (.cells (rarr a R) 27)).alloc (.cells (marr MA.zero Mv.zero) 35)).alloc (.cells (rarr RA.zero Ro.zero) 27))
 rw[HWA.out]
 clear HWA
 have q5:wa.cell? ⟨w.heap.size,5,none⟩=some (.int .i64 2):=B0.out.cell 5
 have q6:wa.cell? ⟨w.heap.size,6,none⟩=some (.slice CA cn cc):=B0.out.cell 6
 have q7:wa.cell? ⟨w.heap.size,7,none⟩=some (.slice HA hn hc2):=B0.out.cell 7
 have B3R:=qD (Blk.row_far B3.out (by omega:w.heap.size+3≠w.heap.size+2) (marr MA.zero Mv.zero))
 go_wp2_with (first|(refine wpList_store_row rfl 35 _ _ rfl (w.heap.size+2) (marr MA.zero Mv.zero) rfl rfl 35 _ B2.out (by rw[sizeM];rfl) rfl (marr_all _ _) ?_)|(refine wpList_store_row rfl 27 _ _ rfl (w.heap.size+3) (rarr RA.zero Ro.zero) rfl rfl 27 _ B3R.out (by rw[sizeR];rfl) rfl (rarr_all _ _) ?_))
 exact bodyPost_ret (results_commit rfl _ (w.heap.size+2) (w.heap.size+3) rfl rfl (.int .i64 23) rfl _ MA.zero Mv.zero RA.zero Ro.zero (Blk.row_far (Blk.row B2.out _) (by omega) _) (Blk.row B3R.out _)) rfl ⟨rfl,below_row (below_row BE.out (by omega) _) (by omega) _⟩
theorem commit_refH(M:Mv)(ma:MA)(R:Ro)(a:RA)(w:World)(hst:M.st=2)(hcn:ma.cn=0)(hhn:0<ma.hn):Calls Tryz.prog 23 #[mval ma M,rval a R] w
 fun e w'=>e=.returned (.tuple #[mval MA.zero Mv.zero,rval RA.zero Ro.zero,.int .i64 23])∧Below w.heap.size w w':=by
 obtain⟨sp,lo,hi,fr,tt,st,cp,ch⟩:=M
 obtain⟨CA,cn,cc,HA,hn,hc2⟩:=ma
 simp only at hst hcn hhn
 subst hst hcn
 have hci:(0:Int)<(hn:Int):=by omega
 obtain⟨wa,hwa⟩:∃wa,(((w.alloc (.cells (marr ⟨CA,0,cc,HA,hn,hc2⟩ ⟨sp,lo,hi,fr,tt,2,cp,ch⟩) 35)).alloc (.cells (rarr a R) 27)).alloc (.cells (marr MA.zero Mv.zero) 35)).alloc (.cells (rarr RA.zero Ro.zero) 27)=wa:=⟨_,rfl⟩
 have B0:Hid (Blk wa w.heap.size 35 (marr ⟨CA,0,cc,HA,hn,hc2⟩ ⟨sp,lo,hi,fr,tt,2,cp,ch⟩)):=by rw[←hwa];exact(((Blk.new_at rfl).alloc _).alloc _).alloc _
 have B2:Hid (Blk wa (w.heap.size+2) 35 (marr MA.zero Mv.zero)):=by rw[←hwa];exact(Blk.new_at (by simp)).alloc _
 have B3:Hid (Blk wa (w.heap.size+3) 27 (rarr RA.zero Ro.zero)):=by rw[←hwa];exact Blk.new_at (by simp)
 have BE:Hid (Below w.heap.size w wa):=by rw[←hwa];exact((((Below.refl _ _).alloc (qL) _).alloc (by simp) _).alloc (by simp;omega) _).alloc (by simp;omega) _
 have HWA:=qD hwa
 clear hwa
 go_enter Tryz.func23,Tryz.ntmps23
 go_upto_region 1 with fail
 change Code.wp _ _ _ _ ((((w.alloc (.cells (marr ⟨CA,0,cc,HA,hn,hc2⟩ ⟨sp,lo,hi,fr,tt,2,cp,ch⟩) 35)).alloc (.cells (rarr a R) 27)).alloc (.cells (marr MA.zero Mv.zero) 35)).alloc (.cells (rarr RA.zero Ro.zero) 27))
 rw[HWA.out]
 clear HWA
 have q5:wa.cell? ⟨w.heap.size,5,none⟩=some (.int .i64 2):=B0.out.cell 5
 have q6:wa.cell? ⟨w.heap.size,6,none⟩=some (.slice CA 0 cc):=B0.out.cell 6
 have q7:wa.cell? ⟨w.heap.size,7,none⟩=some (.slice HA hn hc2):=B0.out.cell 7
 have B3R:=qD (Blk.row_far B3.out (by omega:w.heap.size+3≠w.heap.size+2) (marr MA.zero Mv.zero))
 go_wp2_with (first|(refine wpList_store_row rfl 35 _ _ rfl (w.heap.size+2) (marr MA.zero Mv.zero) rfl rfl 35 _ B2.out (by rw[sizeM];rfl) rfl (marr_all _ _) ?_)|(refine wpList_store_row rfl 27 _ _ rfl (w.heap.size+3) (rarr RA.zero Ro.zero) rfl rfl 27 _ B3R.out (by rw[sizeR];rfl) rfl (rarr_all _ _) ?_))
 exact bodyPost_ret (results_commit rfl _ (w.heap.size+2) (w.heap.size+3) rfl rfl (.int .i64 23) rfl _ MA.zero Mv.zero RA.zero Ro.zero (Blk.row_far (Blk.row B2.out _) (by omega) _) (Blk.row B3R.out _)) rfl ⟨rfl,below_row (below_row BE.out (by omega) _) (by omega) _⟩
theorem load_ref(M:Mv)(ma:MA)(w:World)(hst:M.st≠2):Calls Tryz.prog 15 #[mval ma M] w
 fun e w'=>e=.returned (.tuple #[mval MA.zero Mv.zero,.slice none 0 0,.int .i64 23])∧Below w.heap.size w w':=by
 obtain⟨sp,lo,hi,fr,tt,st,cp,ch⟩:=M
 simp only at hst
 obtain⟨wa,hwa⟩:∃wa,(w.alloc (.cells (marr ma ⟨sp,lo,hi,fr,tt,st,cp,ch⟩) 35)).alloc (.cells (marr MA.zero Mv.zero) 35)=wa:=⟨_,rfl⟩
 have B0:Hid (Blk wa w.heap.size 35 (marr ma ⟨sp,lo,hi,fr,tt,st,cp,ch⟩)):=by rw[←hwa];exact(Blk.new_at rfl).alloc _
 have B2:Hid (Blk wa (w.heap.size+1) 35 (marr MA.zero Mv.zero)):=by rw[←hwa];exact Blk.new_at (by simp)
 have BE:Hid (Below w.heap.size w wa):=by rw[←hwa];exact((Below.refl _ _).alloc (qL) _).alloc (by simp) _
 have HWA:=qD hwa
 clear hwa
 go_enter Tryz.func15,Tryz.ntmps15
 go_upto_region 1 with fail
 change Code.wp _ _ _ _ ((w.alloc (.cells (marr ma ⟨sp,lo,hi,fr,tt,st,cp,ch⟩) 35)).alloc (.cells (marr MA.zero Mv.zero) 35))
 rw[HWA.out]
 clear HWA
 have q5:wa.cell? ⟨w.heap.size,5,none⟩=some (.int .i64 st):=B0.out.cell 5
 have s1:(st != 2)=true:=by simpa using hst
 go_wp2_with (refine wpList_store_row rfl 35 _ _ rfl (w.heap.size+1) (marr MA.zero Mv.zero) rfl rfl 35 _ B2.out (by rw[sizeM];rfl) rfl (marr_all _ _) ?_)
 refine bodyPost_ret (results_load rfl _ (w.heap.size+1) rfl (.slice none 0 0) rfl (.int .i64 23) rfl _ MA.zero Mv.zero (Blk.row B2.out _)) rfl ?_
 exact⟨rfl,below_row BE.out (by omega) _⟩
theorem mgnote_ref(M:Mv)(ma:MA)(R:Ro)(a:RA)(cs:List Value)(w:World)(hst:M.st≠2):
 Calls Tryz.prog 20 #[mval ma M,rval a R,.agg cs.toArray] w fun e w'=>e=.returned (.tuple #[mval MA.zero Mv.zero,.int .i64 23])∧Below w.heap.size w w':=by
 obtain⟨CA,cn,cc,HA,hn,hc2⟩:=ma
 obtain⟨sp,lo,hi,fr,tt,st,cp,ch⟩:=M
 simp only at hst
 obtain⟨wa,hwa⟩:∃wa,(((w.alloc (.cells (marr ⟨CA,cn,cc,HA,hn,hc2⟩ ⟨sp,lo,hi,fr,tt,st,cp,ch⟩) 35)).alloc (.cells (rarr a R) 27)).alloc (.cells cs.toArray 67)).alloc (.cells (marr MA.zero Mv.zero) 35)=wa:=⟨_,rfl⟩
 have B0:Hid (Blk wa w.heap.size 35 (marr ⟨CA,cn,cc,HA,hn,hc2⟩ ⟨sp,lo,hi,fr,tt,st,cp,ch⟩)):=by rw[←hwa];exact(((Blk.new_at rfl).alloc _).alloc _).alloc _
 have BR:Hid (Blk wa (w.heap.size+1) 27 (rarr a R)):=by rw[←hwa];exact((Blk.new_at (by simp)).alloc _).alloc _
 have BW:Hid (Blk wa (w.heap.size+2) 67 cs.toArray):=by rw[←hwa];exact(Blk.new_at (by simp)).alloc _
 have BZ:Hid (Blk wa (w.heap.size+3) 35 (marr MA.zero Mv.zero)):=by rw[←hwa];exact Blk.new_at (by simp)
 have BE:Hid (Below w.heap.size w wa):=by rw[←hwa];exact((((Below.refl _ _).alloc (qL) _).alloc (by simp) _).alloc (by simp;omega) _).alloc (by simp;omega) _
 have HW3:Hid (wa.heap.size=w.heap.size+4):=by rw[←hwa];simp[Hid]
 have HWA:=qD hwa
 clear hwa
 go_enter Tryz.func20,Tryz.ntmps20
 go_upto_region 1 with fail
 change Code.wp _ _ _ _ ((((w.alloc (.cells (marr ⟨CA,cn,cc,HA,hn,hc2⟩ ⟨sp,lo,hi,fr,tt,st,cp,ch⟩) 35)).alloc (.cells (rarr a R) 27)).alloc (.cells cs.toArray 67)).alloc (.cells (marr MA.zero Mv.zero) 35))
 rw[HWA.out]
 clear HWA
 have q5:wa.cell? ⟨w.heap.size,5,none⟩=some (.int .i64 st):=B0.out.cell 5
 have s1:(st != 2)=true:=by simpa using hst
 go_wp2_with (refine wpList_store_row rfl 35 _ _ rfl (w.heap.size+3) (marr MA.zero Mv.zero) rfl rfl 35 _ BZ.out (by rw[sizeM];rfl) rfl (marr_all _ _) ?_)
 refine bodyPost_ret (results_mv rfl _ (w.heap.size+3) rfl (.int .i64 23) rfl _ MA.zero Mv.zero (Blk.row BZ.out _)) rfl ?_
 exact⟨rfl,below_row BE.out (by omega) _⟩
theorem mgnote_same(M:Mv)(ma:MA)(R:Ro)(a:RA)(cs:List Value)(x:Wx)(w:World)(hT:Tabs w)(h:RR w a R)(h8:R.ks.length≤8)(hm:MR w ma M)(hx:IsW w cs x)(hst:M.st=2)(hs:x.sp≠M.sp∨(x.sp=M.sp∧x.kd≠2∧x.kd≠3))(hc:M.cp.length≤1000)(hh:M.ch.length≤900):
 Calls Tryz.prog 20 #[mval ma M,rval a R,.agg cs.toArray] w (MvOk w ⟨M.sp,M.lo,M.hi,M.fr,M.tt,2,M.cp,M.ch⟩):=by
 obtain⟨i0,hi0,hz0,hz1,hz2⟩:=info_parts info_write
 obtain⟨CA,cn,cc,HA,hn,hc2⟩:=ma
 obtain⟨sp,lo,hi,fr,tt,st,cp,ch⟩:=M
 simp only at hst hs hc hh ⊢
 subst hst
 have HT:=qD hT
 have HR:=qD h
 have H8:=qD h8
 have HM:=qD hm
 have HC:=qD hc
 have HH:=qD hh
 have HSP:Hid (sp.size≤reach):=hm.sp
 have HXK:=qD hx.hk
 have HXD:=qD hx.hd
 have HRK:=qD hx.key
 have HRD:=qD hx.doc
 have HX0:=qD hx.h0
 have HX1:=qD hx.h1
 have HCS:Hid (cs.toArray.size=78):=by rw[Hid,List.size_toArray];exact hx.len
 have HS:=qD hs
 clear hT h h8 hm hc hh hx hs
 obtain⟨wa,hwa⟩:∃wa,(((w.alloc (.cells (marr ⟨CA,cn,cc,HA,hn,hc2⟩ ⟨sp,lo,hi,fr,tt,2,cp,ch⟩) 35)).alloc (.cells (rarr a R) 27)).alloc (.cells cs.toArray 67)).alloc (.cells (marr MA.zero Mv.zero) 35)=wa:=⟨_,rfl⟩
 have B0:Hid (Blk wa w.heap.size 35 (marr ⟨CA,cn,cc,HA,hn,hc2⟩ ⟨sp,lo,hi,fr,tt,2,cp,ch⟩)):=by rw[←hwa];exact(((Blk.new_at rfl).alloc _).alloc _).alloc _
 have BR:Hid (Blk wa (w.heap.size+1) 27 (rarr a R)):=by rw[←hwa];exact((Blk.new_at (by simp)).alloc _).alloc _
 have BW:Hid (Blk wa (w.heap.size+2) 67 cs.toArray):=by rw[←hwa];exact(Blk.new_at (by simp)).alloc _
 have BZ:Hid (Blk wa (w.heap.size+3) 35 (marr MA.zero Mv.zero)):=by rw[←hwa];exact Blk.new_at (by simp)
 have BE:Hid (Below w.heap.size w wa):=by rw[←hwa];exact((((Below.refl _ _).alloc (qL) _).alloc (by simp) _).alloc (by simp;omega) _).alloc (by simp;omega) _
 have HW3:Hid (wa.heap.size=w.heap.size+4):=by rw[←hwa];simp[Hid]
 have HWA:=qD hwa
 clear hwa
 go_enter Tryz.func20,Tryz.ntmps20
 go_upto_region 1 with fail
 change Code.wp _ _ _ _ ((((w.alloc (.cells (marr ⟨CA,cn,cc,HA,hn,hc2⟩ ⟨sp,lo,hi,fr,tt,2,cp,ch⟩) 35)).alloc (.cells (rarr a R) 27)).alloc (.cells cs.toArray 67)).alloc (.cells (marr MA.zero Mv.zero) 35))
 rw[HWA.out]
 clear HWA
 have q5:wa.cell? ⟨w.heap.size,5,none⟩=some (.int .i64 2):=B0.out.cell 5
 have HCM:=qD (copyMove_any ⟨sp,lo,hi,fr,tt,2,cp,ch⟩ ⟨CA,cn,cc,HA,hn,hc2⟩ wa (HM.out.step BE.out) HC.out (by have:=HH.out;simp only;omega))
 go_wp2_with (refine wpList_load_row rfl 35 _ rfl (w.heap.size) rfl _ _ _ _ B0.out Tryz.underlying35 rfl (by rw[sizeM];rfl) ?_)
 refine HCM.out.mono ?_
 rintro e w1 ⟨⟨A1,n1,c1,A2,n2,c2⟩,ps1,qs1,rfl,hmo,hb⟩
 have hn2:n2=qs1.length:=hmo.hn
 subst hn2
 have HMO:=qD hmo
 have C0:=qD (B0.out.step hb)
 have CR:=qD (BR.out.step hb)
 have CW:=qD (BW.out.step hb)
 have CZ:=qD (BZ.out.step hb)
 have CE:=qD (BE.out.step' hb)
 clear hmo hb HCM q5 B0 BR BW BZ BE HM
 go_upto_region 4 with(refine wpList_store_row rfl 35 _ _ rfl (w.heap.size) (marr ⟨A1,n1,c1,A2,qs1.length,c2⟩ ⟨sp,lo,hi,fr,tt,2,cp,ch⟩) rfl rfl 35 _ C0.out (by rw[sizeM];rfl) rfl (marr_all _ _) ?_)
 have K0:Hid (Blk (w1.setRow w.heap.size (marr ⟨A1,n1,c1,A2,qs1.length,c2⟩ ⟨sp,lo,hi,fr,tt,2,cp,ch⟩)) w.heap.size 35 (marr ⟨A1,n1,c1,A2,qs1.length,c2⟩ ⟨sp,lo,hi,fr,tt,2,[],[]⟩)):=Blk.row C0.out _
 have KR:=qD (Blk.row_far CR.out (by omega:w.heap.size+1≠w.heap.size) (marr ⟨A1,n1,c1,A2,qs1.length,c2⟩ ⟨sp,lo,hi,fr,tt,2,cp,ch⟩))
 have KW:=qD (Blk.row_far CW.out (by omega:w.heap.size+2≠w.heap.size) (marr ⟨A1,n1,c1,A2,qs1.length,c2⟩ ⟨sp,lo,hi,fr,tt,2,cp,ch⟩))
 have KZ:=qD (Blk.row_far CZ.out (by omega:w.heap.size+3≠w.heap.size) (marr ⟨A1,n1,c1,A2,qs1.length,c2⟩ ⟨sp,lo,hi,fr,tt,2,cp,ch⟩))
 have KE:=qD (below_row CE.out (qL) (marr ⟨A1,n1,c1,A2,qs1.length,c2⟩ ⟨sp,lo,hi,fr,tt,2,cp,ch⟩))
 have MOB:Hid (MO wa.heap.size ⟨A1,n1,c1,A2,qs1.length,c2⟩ ⟨sp,lo,hi,fr,tt,2,cp,ch⟩ ps1 qs1 (w1.setRow w.heap.size (marr ⟨A1,n1,c1,A2,qs1.length,c2⟩ ⟨sp,lo,hi,fr,tt,2,cp,ch⟩))):=HMO.out.keep fun b hb _=>setRow_other _ _ _ _ (by have:=HW3.out;omega)
 clear C0 CR CW CZ CE HMO
 generalize w1.setRow w.heap.size (marr ⟨A1,n1,c1,A2,qs1.length,c2⟩ ⟨sp,lo,hi,fr,tt,2,cp,ch⟩)=wq at*
 have HLP:Hid (ps1.length≤1000):=by have h1:=congrArg List.length MOB.out.cp;rw[List.length_map] at h1;have:=HC.out;unfold Hid;simp only at h1;omega
 have HLEN:Hid (qs1.length≤900):=by have h1:=congrArg List.length MOB.out.ch;rw[List.length_map] at h1;have:=HH.out;unfold Hid;simp only at h1;omega
 have s0:wq.cell? ⟨w.heap.size,0,none⟩=some (.string sp):=K0.out.cell 0
 have s1:wq.cell? ⟨w.heap.size+2,1,none⟩=some (.string x.sp):=KW.out.cellL HX1.out
 have s2:wq.cell? ⟨w.heap.size+2,0,none⟩=some (.int .i64 x.kd):=KW.out.cellL HX0.out
 rcases HS.out with hs|⟨hs,h2,h3⟩
 ·have e1:(x.sp.toList==sp.toList)=false:=by
   cases he:(x.sp.toList==sp.toList)
   ·rfl
   ·exact absurd (bytes_eq.1 (by simpa using he)) hs
  go_wp2_with (first|(refine wpList_load_row rfl 35 _ rfl (w.heap.size) rfl _ _ _ _ K0.out Tryz.underlying35 rfl (by rw[sizeM];rfl) ?_)|(refine wpList_store_row rfl 35 _ _ rfl (w.heap.size+3) (marr ⟨A1,n1,c1,A2,qs1.length,c2⟩ ⟨sp,lo,hi,fr,tt,2,[],[]⟩) rfl rfl 35 _ KZ.out (by rw[sizeM];rfl) rfl (marr_all _ _) ?_))
  refine bodyPost_ret (results_mv rfl _ (w.heap.size+3) rfl (.int .i64 0) rfl _ ⟨A1,n1,c1,A2,qs1.length,c2⟩ ⟨sp,lo,hi,fr,tt,2,[],[]⟩ (Blk.row KZ.out _)) rfl ⟨_,rfl,?_,below_row KE.out (by omega) _⟩
  have h1:=(MOB.out.keep (w':=wq.setRow (w.heap.size+3) (marr ⟨A1,n1,c1,A2,qs1.length,c2⟩ ⟨sp,lo,hi,fr,tt,2,[],[]⟩)) fun b hb _=>setRow_other _ _ _ _ (by have:=HW3.out;omega)).mr (by have:=HLP.out;omega) (by have:=HLEN.out;omega)
  exact⟨h1.sp,h1.cp,h1.ch⟩
 ·have e1:(x.sp.toList==sp.toList)=true:=by rw[hs];simp
  have e2:(x.kd==2)=false:=by simpa using h2
  have e3:(x.kd==3)=false:=by simpa using h3
  go_wp2_with (first|(refine wpList_load_row rfl 35 _ rfl (w.heap.size) rfl _ _ _ _ K0.out Tryz.underlying35 rfl (by rw[sizeM];rfl) ?_)|(refine wpList_store_row rfl 35 _ _ rfl (w.heap.size+3) (marr ⟨A1,n1,c1,A2,qs1.length,c2⟩ ⟨sp,lo,hi,fr,tt,2,[],[]⟩) rfl rfl 35 _ KZ.out (by rw[sizeM];rfl) rfl (marr_all _ _) ?_))
  refine bodyPost_ret (results_mv rfl _ (w.heap.size+3) rfl (.int .i64 0) rfl _ ⟨A1,n1,c1,A2,qs1.length,c2⟩ ⟨sp,lo,hi,fr,tt,2,[],[]⟩ (Blk.row KZ.out _)) rfl ⟨_,rfl,?_,below_row KE.out (by omega) _⟩
  have h1:=(MOB.out.keep (w':=wq.setRow (w.heap.size+3) (marr ⟨A1,n1,c1,A2,qs1.length,c2⟩ ⟨sp,lo,hi,fr,tt,2,[],[]⟩)) fun b hb _=>setRow_other _ _ _ _ (by have:=HW3.out;omega)).mr (by have:=HLP.out;omega) (by have:=HLEN.out;omega)
  exact⟨h1.sp,h1.cp,h1.ch⟩
theorem orph5_any(M:Mv)(ma:MA)(R:Ro)(a:RA)(ds:List PV)(DA:Option Addr)(dn dc:Nat)(w:World)(hT:Tabs w)(h:RR w a R)(h8:R.ks.length≤8)(hd:SL (fun _=>True) w DA dn dc ds)(h20:dn≤20)(hsp:M.sp.size≤reach)(h4:M.st=5):
 Calls Tryz.prog 28 #[mval ma M,rval a R,.slice DA dn dc] w (OrphOk R M (ds.map Prod.snd) w):=by
 obtain⟨j0,hj0,hw0,hw1,hw2⟩:=info_parts info_write
 have HT:=qD hT
 have HR:=qD h
 have H8:=qD h8
 have HD:=qD hd
 have HSP:=qD hsp
 have HDL:Hid (dn=ds.length):=hd.sr.ln
 clear hT h h8 hd hsp
 obtain⟨wa,hwa⟩:∃wa,(w.alloc (.cells (marr ma M) 35)).alloc (.cells (rarr a R) 27)=wa:=⟨_,rfl⟩
 have B0:Hid (Blk wa w.heap.size 35 (marr ma M)):=by rw[←hwa];exact(Blk.new_at rfl).alloc _
 have B1:Hid (Blk wa (w.heap.size+1) 27 (rarr a R)):=by rw[←hwa];exact Blk.new_at (by simp)
 have BE:Hid (Below w.heap.size w wa):=by rw[←hwa];exact((Below.refl _ _).alloc (qL) _).alloc (by simp) _
 have HWA:=qD hwa
 clear hwa
 go_enter Tryz.func28,Tryz.ntmps28
 go_upto_region 1 with fail
 change Code.wp _ _ _ _ ((w.alloc (.cells (marr ma M) 35)).alloc (.cells (rarr a R) 27))
 rw[HWA.out]
 clear HWA
 have q5:wa.cell? ⟨w.heap.size,5,none⟩=some (.int .i64 5):=by rw[←h4];exact B0.out.cell 5
 clear h4
 go_wp2_with fail
 clear q5
 go_loopw [7,22] (fun u7 u22 wr=>∃(i:Nat) (ps:List PW),i≤dn∧u22=.int .i64 i∧ps.map Prod.snd=remL R M.sp M.lo M.hi ((ds.map Prod.snd).take i)∧ps.length≤i∧WsI wa.heap.size wa u7 ps wr) (fun _ u22 _=>dn-(intOf u22).toNat)
 case atStart=>exact⟨0,[],Nat.zero_le _,rfl,rfl,qL,WsI.start wa⟩
 case round=>
  obtain⟨i,ps,hile,rfl,hps,hpl,hvs⟩:=hrel
  have HPS:=qD hps
  have VS:=qD hvs
  clear hps hvs
  by_cases hlt:i<dn
  ·obtain⟨p,hp⟩:∃p,ds[i]?=some p:=⟨_,List.getElem?_eq_getElem (by have:=HDL.out;omega)⟩
   have HPi:=qD hp
   have HBR:=qD (BE.out.step' VS.out.bel)
   obtain⟨b,off,rfl,_,hu,hr⟩:=(HD.out.step HBR.out).vat hp
   have HPR:=qD hr
   obtain⟨a0,a1,a2,a3,a4⟩:=hu
   have i0':(0:Int)≤(i:Int):=by omega
   have i1':(i:Int)<(dn:Int):=by omega
   clear hp hr
   go_upto_region 7 with fail
   change Code.wp _ _ _ _ (wr.alloc (.cells p.1.arr 45))
   have G9:Hid (Blk (wr.alloc (.cells p.1.arr 45)) wr.heap.size 45 p.1.arr):=Blk.new_at rfl
   have V1:=qD (VS.out.step ((Below.refl wr.heap.size wr).alloc (qL) (Obj.cells p.1.arr 45)))
   have PR1:Hid (RW (wr.alloc (.cells p.1.arr 45)) p.1 p.2):=HPR.out.alloc _
   clear VS HPR a0 a1 a2 a3 a4 HBR
   generalize wr.alloc (.cells p.1.arr 45)=wb at*
   generalize wr.heap.size=g9 at*
   obtain⟨b0,b1,b2,b3,b4⟩:=VAt.of_blk G9.out
   simp only[Nat.zero_add] at b0 b1 b2 b3 b4
   have BM1:=qD (B0.out.step V1.out.bel)
   obtain⟨q0,q1,q2,q3,q4,q5,qz⟩:=blk_ro (B1.out.step V1.out.bel)
   obtain⟨ib,hib⟩:∃ib,insD R M.lo M.hi p.2=ib:=⟨_,rfl⟩
   have HIN:=inside_any M ma R a p.2 p.1 wb (HT.out.step (BE.out.step' V1.out.bel)) (HR.out.step (BE.out.step' V1.out.bel)) PR1.out H8.out
   rw[hib] at HIN
   have HIN2:=qD HIN
   have HTK:Hid (remL R M.sp M.lo M.hi ((ds.map Prod.snd).take (i+1))=ps.map Prod.snd++(if ib=true then [remW M.sp (idV p.2)] else [])):=by
    rw[Hid,take_snoc' (show(ds.map Prod.snd)[i]?=some p.2 by rw[List.getElem?_map,HPi.out];rfl),remL_snoc,←HPS.out,hib]
   clear hib HIN
   go_wp2_with (refine wpList_load_row rfl 35 _ rfl w.heap.size rfl _ _ _ _ BM1.out Tryz.underlying35 rfl (by rw[sizeM];rfl) ?_)
   refine HIN2.out.mono ?_
   rintro e wc ⟨rfl,hb⟩
   have V2:=qD (V1.out.step hb)
   have G2:=qD (G9.out.step hb)
   have PR2:=qD (PR1.out.step hb)
   clear hb V1 G9 PR1 BM1 HIN2 b0 b1 b2 b3 b4 q0 q1 q2 q3 q4 q5 qz
   cases ib
   ·have HT2:Hid (remL R M.sp M.lo M.hi ((ds.map Prod.snd).take (i+1))=ps.map Prod.snd):=HTK.out.trans (List.append_nil _)
    go_wp2_with fail
    go_roundw
    case rel=>exact⟨i+1,ps,by omega,by go_num,HT2.out.symm,by omega,V2.out⟩
    case measure=>simp[intOf];omega
   ·have HT2:Hid (remL R M.sp M.lo M.hi ((ds.map Prod.snd).take (i+1))=ps.map Prod.snd++[remW M.sp (idV p.2)]):=HTK.out
    obtain⟨b0,b1,b2,b3,b4⟩:=VAt.of_blk G2.out
    simp only[Nat.zero_add] at b0 b1 b2 b3 b4
    have HG:=qD (get_any p.2 p.1 idB wc PR2.out)
    go_wp2_with fail
    refine HG.out.mono ?_
    rintro e wd ⟨c,rfl,hr,hb⟩
    have V3:=qD (V2.out.step hb)
    have RC:Hid (RW wd c (idV p.2)):=hr.mono fun _ _=>trivial
    clear hr hb V2 HG b0 b1 b2 b3 b4
    go_upto_region 9 with fail
    change Code.wp _ _ _ _ (wd.alloc (.cells c.arr 45))
    have G3:Hid (Blk (wd.alloc (.cells c.arr 45)) wd.heap.size 45 c.arr):=Blk.new_at rfl
    have V4:=qD (V3.out.step ((Below.refl wd.heap.size wd).alloc (qL) (Obj.cells c.arr 45)))
    have RC2:Hid (RW (wd.alloc (.cells c.arr 45)) c (idV p.2)):=RC.out.alloc _
    clear V3 RC
    generalize wd.alloc (.cells c.arr 45)=we at*
    generalize wd.heap.size=g10 at*
    obtain⟨b0,b1,b2,b3,b4⟩:=VAt.of_blk G3.out
    simp only[Nat.zero_add] at b0 b1 b2 b3 b4
    have BM1:=qD (B0.out.step V4.out.bel)
    have HRM:=qD (remove_any M ma (idV p.2) c we HSP.out RC2.out)
    go_wp2_with (refine wpList_load_row rfl 35 _ rfl w.heap.size rfl _ _ _ _ BM1.out Tryz.underlying35 rfl (by rw[sizeM];rfl) ?_)
    refine HRM.out.mono ?_
    rintro e wf ⟨wc1,rfl,hr,hb⟩
    have V5:=qD (V4.out.step hb)
    have RP:Hid (RW1 (fun b=>Value.ownBlock u7≠some b) wf wc1 (remW M.sp (idV p.2))):=hr.mono fun b hb2 e=>by have:=own_lt V4.out.own e;omega
    clear hr hb V4 RC2 BM1 HRM b0 b1 b2 b3 b4 G3
    have V6:=qD (V5.out.step ((Below.refl wf.heap.size wf).alloc (qL) (Obj.cells (recC78 wc1).toArray 67)))
    have RP2:=qD (RP.out.alloc (.cells (recC78 wc1).toArray 67))
    have N2:Hid (Blk (wf.alloc (.cells (recC78 wc1).toArray 67)) wf.heap.size 67 (recC78 wc1).toArray):=Blk.new_at rfl
    have HLO6:Hid (wa.heap.size≤(wf.alloc (.cells (recC78 wc1).toArray 67)).heap.size):=V6.out.bel.size
    have hpl3:ps.length≤20:=by omega
    go_wp2_with (first
     | (refine wpList_buildSlice rfl 33 67 1 _ rfl (recC78 wc1).toArray j0 _ Tryz.underlying33 hj0 hw0 (by rw[hw1];decide) (by rw[hw1];decide) (by rw[hw1];exact build_write rfl) ?_)
     | (at_builtin;refine wpList_append_any _ rfl _ _ 33 rfl wa.heap.size 67 j0 _ 78 1168 Tryz.underlying33 hj0 hw0 hw1 hw2 rfl (by decide) u7 ps.length (flat recW ps) rfl V6.out.own _ _ 1 _ (recC78 wc1) rfl (reads_one N2.out N2.out.lt) (recC78_one wc1) (by unfold maxLen;omega) (by omega) HLO6.out ?_))
    intro v' wh hown hgr hat
    have HI:=qD (V6.out.add (p:=(wc1,remW M.sp (idV p.2))) RP2.out rfl hown hgr (by rw[size_alloc];exact hat))
    clear hown hgr hat V5 V6 RP RP2 N2 HLO6
    go_wp2_with fail
    go_roundw
    case rel=>exact⟨i+1,ps++[(wc1,remW M.sp (idV p.2))],by omega,by go_num,by rw[List.map_append];exact HT2.out.symm,by simp;omega,HI.out⟩
    case measure=>simp[intOf];omega
  ·have hik:dn=i:=by omega
   subst hik
   have HALL:Hid (ps.map Prod.snd=remL R M.sp M.lo M.hi (ds.map Prod.snd)):=by
    have:=HPS.out
    rwa [List.take_of_length_le (by rw[List.length_map,HDL.out];exact qL)] at this
   have hpl2:ps.length≤20:=by omega
   have HBR:=qD (BE.out.step' VS.out.bel)
   by_cases h0:ps.length=0
   ·have hps0:ps=[]:=List.eq_nil_of_length_eq_zero h0
    subst hps0
    obtain⟨A0,c0,hu7,hc0⟩:=own_slice VS.out.own
    subst hu7
    have HST:Hid (StW (remL R M.sp M.lo M.hi (ds.map Prod.snd)) []):=by rw[Hid,←HALL.out];exact⟨[],Sorted.nil,rfl⟩
    clear VS h0
    go_wp2_with fail
    refine(sort0_any A0 c0 wr).mono ?_
    rintro e w1 ⟨rfl,rfl⟩
    go_wp2_with fail
    go_ret
    exact⟨A0,0,c0,[],rfl,HST.out,⟨SR.nil,by decide,fun p hp=>by simp at hp⟩,HBR.out⟩
   ·obtain⟨g,cap,cur,hu7,hge,hcur,hncap,hcm,hcs,hct⟩:∃g cap cur,u7=.slice (some ⟨g,0,none⟩) ps.length cap∧wa.heap.size≤g∧wr.heap[g]?=some (.cells cur 67 (0,0))∧ps.length≤cap∧cap≤maxLen∧cur.size=cap*78∧cur.toList.take (ps.length*78)=flat recW ps:=by
     rcases VS.out.own.2 with⟨_,h⟩|h
     ·exact absurd h h0
     ·exact h
    have HRV:=qD VS.out.rv
    have HOB:Hid (u7.ownBlock=some g):=by rw[Hid,hu7];rfl
    have HROW:Hid (SRowW wr g (tagFrom 0 ps)):=by
     refine⟨cur.toList.drop (ps.length*78),?_⟩
     rw[flat_tags,tagFrom_of,←hct,List.take_append_drop]
     exact hcur
    have HCM:Hid (CmpOkW g wr (tagFrom 0 ps)):=qD fun x y hx hy w2 hb=>by
     have hx2:x.1∈ps:=by have:=List.mem_map_of_mem (f:=Prod.fst) hx;rwa [tagFrom_of] at this
     have hy2:y.1∈ps:=by have:=List.mem_map_of_mem (f:=Prod.fst) hy;rwa [tagFrom_of] at this
     exact orph1_any x.1 y.1 w2 ((HRV.out x.1 hx2).but HOB.out hb).key ((HRV.out y.1 hy2).but HOB.out hb).key
    have HSO:=qD (sortStableW_any (tagFrom 0 ps) g ps.length cap wr HROW.out (tagFrom_lenW ps 0).symm (by omega) (tagFrom_tagged ps 0) HCM.out)
    have HGE:=qD hge
    have HOB2:=HOB
    clear HOB
    have HU:=qD hu7
    have HRV2:Hid (∀p∈ps,∀w2,But g wr w2→RW1 (fun _=>True) w2 p.1 p.2):=qD fun p hp w2 hb=>(HRV.out p hp).but HOB2.out hb
    clear VS h0 hge hcur hcs hct HROW HCM HRV HOB2 hcm
    have hu8:=HU.out
    clear HU hu7
    subst hu8
    go_wp2_with fail
    refine HSO.out.mono ?_
    rintro e w1 ⟨rfl,S,hS,hI⟩
    rw[List.nil_append,List.append_nil] at hI
    have HI:=qD hI
    have HSS:=qD hS
    clear hS hI HSO
    go_wp2_with fail
    go_ret
    have hl:S.length=ps.length:=by rw[HSS.out.perm.length_eq,tagFrom_lenW]
    have hmem:∀p∈S.map Prod.fst,p∈ps:=fun p hp=>by
     have h1:=(HSS.out.perm.map Prod.fst).mem_iff.1 hp
     rwa [tagFrom_of] at h1
    refine⟨some ⟨g,0,none⟩,ps.length,cap,S.map Prod.fst,rfl,?_,⟨⟨by rw[List.length_map,hl],hncap,fun _=>⟨g,0,rfl,?_,fun i p hi j v hj=>?_⟩⟩,by unfold reach;omega,fun p hp=>HRV2.out p (hmem p hp) w1 HI.out.but⟩,?_⟩
    ·rw[←HALL.out]
     exact StW.of HSS.out
    ·have:=HI.out.row
     obtain⟨X,hX⟩:=this
     exact hX.lt
    ·rw[List.getElem?_map] at hi
     obtain⟨q,hq,rfl⟩:=Option.map_eq_some_iff.1 hi
     rw[Nat.zero_add]
     exact SRowW.range HI.out.row hq j v hj
    ·exact HBR.out.trans (HI.out.but.below HBR.out.size (by have:=HGE.out;have:=BE.out.size;omega))
def numGo:Nat→Int→List Int
 | 0,u=>[u%256]
 | f+1,u=>if u<128 then [u%256] else bits .or .u8 (u%128) 128::numGo f (u/128)
theorem numGo_len:∀(f:Nat) (u:Int),(numGo f u).length≤f+1
 | 0,_=>by simp[numGo]
 | f+1,u=>by
  rw[numGo]
  split
  ·simp
  ·have:=numGo_len f (u/128)
   simp only[List.length_cons]
   omega
def shl1(n:Int):Int:=IntKind.u64.wrap (IntKind.u64.wrap n*2)
def zz(n:Int):Int:=if n<0 then bits .xor .u64 (if IntKind.u64.signed=true then -1 else IntKind.u64.max) (shl1 n) else shl1 n
def numB(n:Int):ByteArray:=strOfNums (numGo 10 (zz n))
theorem numB_size(n:Int):(numB n).size≤11:=by rw[numB,strOfNums_size];exact numGo_len 10 _
theorem str1N(z:Int)(w:World)(h:Tryz.prog.underlying 5=some (.int .u8)):(convert 152 9 (.slice (some ⟨w.heap.size,0,none⟩) 1 1)).run Tryz.prog (w.alloc (.cells #[.int .u8 z] 5))=.ok (.string (strOfNums [z])) (w.alloc (.cells #[.int .u8 z] 5)):=by
 refine run_convert_bytes_arg (P:=Tryz.prog) _ 152 5 Tryz.underlying152 h w.heap.size 0 1 1 [z] rfl (fun i hi=>?_) 9 Tryz.underlying9
 obtain rfl:i=0:=by omega
 exact(Blk.new w 5 #[.int .u8 z]).cell 0
theorem zz_range(n:Int):0≤zz n∧zz n<18446744073709551616:=by
 unfold zz
 split
 ·show 0≤IntKind.u64.wrap _∧IntKind.u64.wrap _<18446744073709551616
  rw[IntKind.wrap_u64];omega
 ·unfold shl1
  rw[IntKind.wrap_u64];omega
theorem numGo_end{f:Nat}{u:Int}(h:f=0∨u<128):numGo f u=[u%256]:=by
 cases f with
 | zero=>rfl
 | succ f=>
  rw[numGo,if_pos]
  rcases h with h|h
  ·omega
  ·exact h
theorem numGo_step{f:Nat}{u:Int}(h:128≤u):numGo (f+1) u=bits .or .u8 (u%128) 128::numGo f (u/128):=by
 rw[numGo,if_neg (by omega)]
structure NumI(n:Int)(w:World)(i:Nat)(u:Int)(l:List Int)(wr:World):Prop where
 i10:i≤10
 u0:0≤u
 u1:u<18446744073709551616
 ln:l.length=i
 eq:numGo 10 (zz n)=l++numGo (10-i) u
 bel:Below w.heap.size w wr
theorem rnum_any(n:Int)(w:World):
 Calls Tryz.prog 112 #[.int .i64 n] w fun e w'=>e=.returned (.string (numB n))∧Below w.heap.size w w':=by
 have HZ:=qD (zz_range n)
 go_enter Tryz.func112,Tryz.ntmps112
 by_cases hn:n<0
 ·have hs:IntKind.u64.wrap (IntKind.u64.wrap n*2)=shl1 n:=rfl
  have hz:bits .xor .u64 (if IntKind.u64.signed=true then -1 else IntKind.u64.max) (shl1 n)=zz n:=by unfold zz;rw[if_pos hn]
  go_wp2_with fail
  clear hs hz hn
  go_loopw [3,4,5] (fun u3 u4 u5 wr=>∃(i:Nat) (u:Int) (l:List Int),u5=.int .i64 i∧u3=.int .u64 u∧u4=.string (strOfNums l)∧NumI n w i u l wr) (fun _ _ u5 _=>10-(intOf u5).toNat)
  case atStart=>exact⟨0,zz n,[],rfl,rfl,rfl,by omega,HZ.out.1,HZ.out.2,rfl,rfl,Below.refl _ _⟩
  case round=>
   obtain⟨i,u,l,rfl,rfl,rfl,hI⟩:=hrel
   have HI:=qD hI
   have u0:=hI.u0
   have u1:=hI.u1
   clear hI
   have hln:(strOfNums l).size≤10:=by rw[strOfNums_size,HI.out.ln];exact HI.out.i10
   have HSZ:=qD hln
   clear hln
   by_cases h1:i<10
   ·have i1:(i:Int)<10:=by omega
    by_cases h2:128≤u
    ·have hcv:=str1N (bits .or .u8 (u%128) 128) wr Tryz.underlying5
     obtain⟨S,hS⟩:∃S,S=strOfNums l:=⟨_,rfl⟩
     obtain⟨Z,hZ⟩:∃Z,Z=strOfNums [bits .or .u8 (u%128) 128]:=⟨_,rfl⟩
     rw[←hZ] at hcv
     rw[←hS]
     have hz2:¬(9223372036854775807<S.size+Z.size):=by
      have h3:=HSZ.out
      rw[←hS] at h3
      have h4:Z.size=1:=by rw[hZ,strOfNums_size];rfl
      omega
     have HS:=qD hS
     have HZ2:=qD hZ
     have HST:Hid (numGo (10-i) u=bits .or .u8 (u%128) 128::numGo (10-(i+1)) (u/128)):=by
      rw[Hid,show 10-i=(10-(i+1))+1 from by omega]
      exact numGo_step h2
     clear hS hZ
     go_wp2_with fail
     go_roundw
     case rel=>
      refine⟨i+1,u/128,l++[bits .or .u8 (u%128) 128],by go_num,rfl,by rw[HS.out,HZ2.out,strOfNums_append],by omega,by omega,by omega,by rw[List.length_append,HI.out.ln];rfl,?_,HI.out.bel.alloc HI.out.bel.size _⟩
      rw[HI.out.eq,HST.out,List.append_assoc]
      rfl
     case measure=>simp[intOf];omega
    ·have hcv:=str1N u wr Tryz.underlying5
     obtain⟨S,hS⟩:∃S,S=strOfNums l:=⟨_,rfl⟩
     obtain⟨Z,hZ⟩:∃Z,Z=strOfNums [u]:=⟨_,rfl⟩
     rw[←hZ] at hcv
     rw[←hS]
     have hz2:¬(9223372036854775807<S.size+Z.size):=by
      have h3:=HSZ.out
      rw[←hS] at h3
      have h4:Z.size=1:=by rw[hZ,strOfNums_size];rfl
      omega
     have HV:Hid (numB n=S++Z):=by
      rw[Hid,numB,HI.out.eq,numGo_end (.inr (by omega)),strOfNums_append,hS,hZ,show u%256=u from by omega]
     clear hS hZ
     go_wp2_with fail
     go_ret
     exact⟨by rw[HV.out];rfl,HI.out.bel.alloc HI.out.bel.size _⟩
   ·have hcv:=str1N (u%256) wr Tryz.underlying5
    have hi:=HI.out.i10
    obtain⟨S,hS⟩:∃S,S=strOfNums l:=⟨_,rfl⟩
    obtain⟨Z,hZ⟩:∃Z,Z=strOfNums [u%256]:=⟨_,rfl⟩
    rw[←hZ] at hcv
    rw[←hS]
    have hz2:¬(9223372036854775807<S.size+Z.size):=by
     have h3:=HSZ.out
     rw[←hS] at h3
     have h4:Z.size=1:=by rw[hZ,strOfNums_size];rfl
     omega
    have HV:Hid (numB n=S++Z):=by
     rw[Hid,numB,HI.out.eq,numGo_end (.inl (by omega)),strOfNums_append,hS,hZ]
    clear hS hZ
    go_wp2_with fail
    go_ret
    exact⟨by rw[HV.out];rfl,HI.out.bel.alloc HI.out.bel.size _⟩
 ·have hz:IntKind.u64.wrap (IntKind.u64.wrap n*2)=zz n:=by unfold zz shl1;rw[if_neg hn]
  go_wp2_with fail
  clear hz hn
  go_loopw [3,4,5] (fun u3 u4 u5 wr=>∃(i:Nat) (u:Int) (l:List Int),u5=.int .i64 i∧u3=.int .u64 u∧u4=.string (strOfNums l)∧NumI n w i u l wr) (fun _ _ u5 _=>10-(intOf u5).toNat)
  case atStart=>exact⟨0,zz n,[],rfl,rfl,rfl,by omega,HZ.out.1,HZ.out.2,rfl,rfl,Below.refl _ _⟩
  case round=>
   obtain⟨i,u,l,rfl,rfl,rfl,hI⟩:=hrel
   have HI:=qD hI
   have u0:=hI.u0
   have u1:=hI.u1
   clear hI
   have hln:(strOfNums l).size≤10:=by rw[strOfNums_size,HI.out.ln];exact HI.out.i10
   have HSZ:=qD hln
   clear hln
   by_cases h1:i<10
   ·have i1:(i:Int)<10:=by omega
    by_cases h2:128≤u
    ·have hcv:=str1N (bits .or .u8 (u%128) 128) wr Tryz.underlying5
     obtain⟨S,hS⟩:∃S,S=strOfNums l:=⟨_,rfl⟩
     obtain⟨Z,hZ⟩:∃Z,Z=strOfNums [bits .or .u8 (u%128) 128]:=⟨_,rfl⟩
     rw[←hZ] at hcv
     rw[←hS]
     have hz2:¬(9223372036854775807<S.size+Z.size):=by
      have h3:=HSZ.out
      rw[←hS] at h3
      have h4:Z.size=1:=by rw[hZ,strOfNums_size];rfl
      omega
     have HS:=qD hS
     have HZ2:=qD hZ
     have HST:Hid (numGo (10-i) u=bits .or .u8 (u%128) 128::numGo (10-(i+1)) (u/128)):=by
      rw[Hid,show 10-i=(10-(i+1))+1 from by omega]
      exact numGo_step h2
     clear hS hZ
     go_wp2_with fail
     go_roundw
     case rel=>
      refine⟨i+1,u/128,l++[bits .or .u8 (u%128) 128],by go_num,rfl,by rw[HS.out,HZ2.out,strOfNums_append],by omega,by omega,by omega,by rw[List.length_append,HI.out.ln];rfl,?_,HI.out.bel.alloc HI.out.bel.size _⟩
      rw[HI.out.eq,HST.out,List.append_assoc]
      rfl
     case measure=>simp[intOf];omega
    ·have hcv:=str1N u wr Tryz.underlying5
     obtain⟨S,hS⟩:∃S,S=strOfNums l:=⟨_,rfl⟩
     obtain⟨Z,hZ⟩:∃Z,Z=strOfNums [u]:=⟨_,rfl⟩
     rw[←hZ] at hcv
     rw[←hS]
     have hz2:¬(9223372036854775807<S.size+Z.size):=by
      have h3:=HSZ.out
      rw[←hS] at h3
      have h4:Z.size=1:=by rw[hZ,strOfNums_size];rfl
      omega
     have HV:Hid (numB n=S++Z):=by
      rw[Hid,numB,HI.out.eq,numGo_end (.inr (by omega)),strOfNums_append,hS,hZ,show u%256=u from by omega]
     clear hS hZ
     go_wp2_with fail
     go_ret
     exact⟨by rw[HV.out];rfl,HI.out.bel.alloc HI.out.bel.size _⟩
   ·have hcv:=str1N (u%256) wr Tryz.underlying5
    have hi:=HI.out.i10
    obtain⟨S,hS⟩:∃S,S=strOfNums l:=⟨_,rfl⟩
    obtain⟨Z,hZ⟩:∃Z,Z=strOfNums [u%256]:=⟨_,rfl⟩
    rw[←hZ] at hcv
    rw[←hS]
    have hz2:¬(9223372036854775807<S.size+Z.size):=by
     have h3:=HSZ.out
     rw[←hS] at h3
     have h4:Z.size=1:=by rw[hZ,strOfNums_size];rfl
     omega
    have HV:Hid (numB n=S++Z):=by
     rw[Hid,numB,HI.out.eq,numGo_end (.inl (by omega)),strOfNums_append,hS,hZ]
    clear hS hZ
    go_wp2_with fail
    go_ret
    exact⟨by rw[HV.out];rfl,HI.out.bel.alloc HI.out.bel.size _⟩
def strB(s:ByteArray):ByteArray:=numB (s.size:Int)++s
def flagB(b:Bool):ByteArray:=if b then⟨#[1]⟩ else⟨#[0]⟩
mutual
def codeV:Val→ByteArray
 | .mk k n t l d=>numB k++(numB n++(strB t++(numB (l.length:Int)++(codeL l++(numB (d.length:Int)++codeD d)))))
def codeL:List Val→ByteArray
 | []=>ByteArray.empty
 | x::r=>codeV x++codeL r
def codeD:List Fld→ByteArray
 | []=>ByteArray.empty
 | f::r=>codeF f++codeD r
def codeF:Fld→ByteArray
 | .mk s v=>strB s++codeV v
end
theorem codeV_eq(x:Val):codeV x=numB x.k++(numB x.n++(strB x.t++(numB (x.l.length:Int)++(codeL x.l++(numB (x.d.length:Int)++codeD x.d))))):=by
 cases x;rw[codeV];rfl
theorem codeF_eq(f:Fld):codeF f=strB f.s++codeV f.v:=by cases f;rw[codeF];rfl
theorem codeL_append:∀l m:List Val,codeL (l++m)=codeL l++codeL m
 | [],m=>by simp[codeL]
 | x::r,m=>by rw[List.cons_append,codeL,codeL,codeL_append r m,ByteArray.append_assoc]
theorem codeD_append:∀l m:List Fld,codeD (l++m)=codeD l++codeD m
 | [],m=>by simp[codeD]
 | x::r,m=>by rw[List.cons_append,codeD,codeD,codeD_append r m,ByteArray.append_assoc]
theorem take_snocC{α:Type}{l:List α}{i:Nat}{y:α}(h:l[i]?=some y):l.take (i+1)=l.take i++[y]:=by
 rw[List.take_add_one,h];rfl
theorem codeL_snoc{l:List Val}{i:Nat}{y:Val}(h:l[i]?=some y):codeL (l.take (i+1))=codeL (l.take i)++codeV y:=by
 rw[take_snocC h,codeL_append,codeL,codeL,ByteArray.append_empty]
theorem codeD_snoc{l:List Fld}{i:Nat}{y:Fld}(h:l[i]?=some y):codeD (l.take (i+1))=codeD (l.take i)++(strB y.s++codeV y.v):=by
 rw[take_snocC h,codeD_append,codeD,codeD,ByteArray.append_empty,codeF_eq]
theorem codeL_take_le(l:List Val)(i:Nat):(codeL (l.take i)).size≤(codeL l).size:=by
 have h:=codeL_append (l.take i) (l.drop i)
 rw[List.take_append_drop] at h
 rw[h,ByteArray.size_append];omega
theorem codeD_take_le(l:List Fld)(i:Nat):(codeD (l.take i)).size≤(codeD l).size:=by
 have h:=codeD_append (l.take i) (l.drop i)
 rw[List.take_append_drop] at h
 rw[h,ByteArray.size_append];omega
theorem codeV_size(x:Val):(codeV x).size=(numB x.k).size+((numB x.n).size+((strB x.t).size+((numB (x.l.length:Int)).size+((codeL x.l).size+((numB (x.d.length:Int)).size+(codeD x.d).size))))):=by
 rw[codeV_eq];simp only[ByteArray.size_append]
def valZ:ByteArray:=codeV Val.zero
def shapeZ:ByteArray:=numB 0++(numB 0++numB 0)
def exprZ:ByteArray:=numB 0++(numB 0++(strB ByteArray.empty++(numB 0++(valZ++(numB 0++numB 0)))))
def predZ:ByteArray:=numB 0++(numB 0++(valZ++(numB 0++(numB 0++(numB 0++(shapeZ++(exprZ++numB 0)))))))
def indexZ:ByteArray:=strB ByteArray.empty++(numB 0++(numB 0++(flagB false++(flagB false++(flagB false++predZ)))))
def schemaZ:ByteArray:=numB 0++(flagB false++(valZ++(flagB false++(valZ++(numB 0++(numB 0++(numB 0++(numB 0++(numB 0++(flagB false++(numB 0++flagB false)))))))))))
def spaceZ:ByteArray:=strB ByteArray.empty++(numB 0++(schemaZ++(numB 0++numB 0)))
def codeW(x:Wt):ByteArray:=numB x.kd++(strB x.sp++(codeV x.key++(codeV x.doc++(valZ++(spaceZ++(indexZ++(strB ByteArray.empty++(numB 0++(numB 0++(numB 0++flagB x.si))))))))))
def entryC(x:Wt):ByteArray:=numB 0++(numB 0++(strB ByteArray.empty++(numB 0++codeW x)))
theorem strB_size(s:ByteArray):(strB s).size≤s.size+11:=by rw[strB,ByteArray.size_append];have:=numB_size (s.size:Int);omega
theorem flagB_size(b:Bool):(flagB b).size=1:=by cases b<;>rfl
theorem valZ_size:valZ.size≤60:=by
 have:=codeV_size Val.zero
 have h1:=numB_size Val.zero.k
 have h2:=numB_size Val.zero.n
 have h3:=strB_size Val.zero.t
 have h4:=numB_size (Val.zero.l.length:Int)
 have h5:=numB_size (Val.zero.d.length:Int)
 have e1:(codeL Val.zero.l).size=0:=by rw[show Val.zero.l=[] from rfl,codeL];rfl
 have e2:(codeD Val.zero.d).size=0:=by rw[show Val.zero.d=[] from rfl,codeD];rfl
 have e3:Val.zero.t.size=0:=rfl
 show(codeV Val.zero).size≤60
 omega
theorem empty_sizeB:ByteArray.empty.size=0:=rfl
theorem shapeZ_size:shapeZ.size≤40:=by
 have:=numB_size 0
 simp only[shapeZ,ByteArray.size_append];omega
theorem exprZ_size:exprZ.size≤200:=by
 have:=numB_size 0
 have:=strB_size ByteArray.empty
 have:=valZ_size
 have:=empty_sizeB
 simp only[exprZ,ByteArray.size_append];omega
theorem predZ_size:predZ.size≤400:=by
 have:=numB_size 0
 have:=shapeZ_size
 have:=exprZ_size
 have:=valZ_size
 simp only[predZ,ByteArray.size_append];omega
theorem indexZ_size:indexZ.size≤500:=by
 have:=numB_size 0
 have:=strB_size ByteArray.empty
 have:=predZ_size
 have:=flagB_size false
 have:=empty_sizeB
 simp only[indexZ,ByteArray.size_append];omega
theorem schemaZ_size:schemaZ.size≤300:=by
 have:=numB_size 0
 have:=valZ_size
 have:=flagB_size false
 simp only[schemaZ,ByteArray.size_append];omega
theorem spaceZ_size:spaceZ.size≤400:=by
 have:=numB_size 0
 have:=schemaZ_size
 have:=strB_size ByteArray.empty
 have:=empty_sizeB
 simp only[spaceZ,ByteArray.size_append];omega
def SmV(x:Val):Prop:=(codeV x).size≤1000000000
def SmW(x:Wt):Prop:=SmV x.key∧SmV x.doc
theorem smV_zero:SmV Val.zero:=by have:=valZ_size;unfold SmV;show valZ.size≤_;omega
theorem smV_fld{x:Val}{i:Nat}{f:Fld}(h:SmV x)(hf:x.d[i]?=some f):SmV f.v:=by
 have h1:=codeD_snoc hf
 have h2:=codeD_take_le x.d (i+1)
 have h3:=codeV_size x
 rw[h1] at h2
 simp only[ByteArray.size_append] at h2
 unfold SmV at h ⊢
 omega
theorem entryC_size{x:Wt}(h:SmW x)(hs:x.sp.size≤reach):(entryC x).size≤4611686018427387904:=by
 have h0:=numB_size 0
 have h1:=numB_size x.kd
 have h2:=strB_size x.sp
 have h3:=strB_size ByteArray.empty
 have h4:=valZ_size
 have h5:=spaceZ_size
 have h6:=indexZ_size
 have h7:=flagB_size x.si
 have h8:=empty_sizeB
 obtain⟨h9,h10⟩:=h
 unfold SmV at h9 h10
 unfold reach at hs
 simp only[entryC,codeW,ByteArray.size_append]
 omega
end Go.Proofs.YtlicnjecnehaoaaGreatDoor
