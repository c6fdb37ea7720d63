/- A part of the proof. -/
import Derived.Test.YtgfoliedmhgpnaaGreatDoorBn29
set_option maxRecDepth 100000
set_option maxHeartbeats 16000000
set_option linter.unusedSimpArgs false
open Go.Proofs.Tryz
open ByteArray (empty)
namespace Go.Proofs.YtgfoliedmhgpnaaGreatDoor
open Go.RowKit
section
variable {l:List ByteArray} {c o n:Nat} {a:Int} {w w':World} {A:Option Addr}
def Gl(K:Nat)(w:World)(e:Ending)(w':World):Prop:=∃A n c l B m d k C o f q,e=.returned (.tuple #[.slice A n c,.slice B m d,.slice C o f])/\TL w' A n c l/\TL w' B m d k/\TL w' C o f q/\n<=K/\m<=K/\o<=K/\Below w.heap.size w w'
theorem TL.grown{w w':World}{A:Option Addr}{n c:Nat}{l:List ByteArray}{o:Option Nat}(h:TL w A n c l)(hg:w.grownBy w' o)(hne:∀a,A=some a->some a.block≠o):TL w' A n c l:=by
 refine⟨⟨h.sr.ln,h.sr.lc,fun h0=>?_⟩,h.el,h.form⟩;obtain⟨b,off,e,hb,hc⟩:=h.sr.el h0;refine⟨b,off,e,Ka hb hg.size,fun i a hi j v hj=>?_⟩;exact(Kh (w:=w) (w':=w') (a:=⟨b,off+i*1+j,none⟩) (hg.block b hb (hne _ e))).trans (hc i a hi j v hj)
end
structure ve(w0:World)(v6:Value)(A:Option Addr)(n c:Nat)(l:List ByteArray)(K:Nat)(w:World):Prop where
 tl:TL w A n c l
 le:n<=K
 ap:∀a,A=some a->some a.block≠v6.ownBlock
 lt:∀a,A=some a->a.block<w.heap.size
section
variable {l:List ByteArray} {c K n size:Nat} {w w' w0:World} {A:Option Addr} {v6:Value}
theorem ve.step{w0 w w':World}{v6:Value}{A:Option Addr}{n c:Nat}{l:List ByteArray}{K:Nat}(h:ve w0 v6 A n c l K w)(hb:Below w.heap.size w w'):ve w0 v6 A n c l K w':=⟨h.tl.step hb,h.le,h.ap,fun a ha=>Ka (h.lt a ha) hb.size⟩
theorem ve.up{w0 w:World}{v6:Value}{A:Option Addr}{n c:Nat}{l:List ByteArray}{K K':Nat}(h:ve w0 v6 A n c l K w)(hk:K<=K'):ve w0 v6 A n c l K' w:=⟨h.tl,KM h.le hk,h.ap,h.lt⟩
end
structure xV(w:World)(S i:Nat)(v6:Value)(A:Option Addr)(n c:Nat)(l:List ByteArray)(B:Option Addr)(m d:Nat)(q:List ByteArray)(k:Nat)(xs:List ByteArray)(wr:World):Prop where
 need:ve w v6 A n c l (i*(S+2)) wr
 no:ve w v6 B m d q (i*(S+2)) wr
 row:kO w v6 k xs wr
 ln:xs.length=k
 k6:k<=i
 el:∀x∈xs,x.size<=1000000
section
variable {l r xs:List ByteArray} {b c k K i g o n j B m q ln size S:Nat} {a x y d:Int} {s:ByteArray} {w w' wr w0 W:World} {A A':Option Addr} {e:TypeId} {v' v6:Value}
theorem xV.step{w:World}{S i:Nat}{v6:Value}{A:Option Addr}{n c:Nat}{l:List ByteArray}{B:Option Addr}{m d:Nat}{q:List ByteArray}{k:Nat}{xs:List ByteArray}{wr w':World}(h:xV w S i v6 A n c l B m d q k xs wr)(hb:Below wr.heap.size wr w'):xV w S i v6 A n c l B m d q k xs w':=⟨h.need.step hb,h.no.step hb,h.row.step hb,h.ln,h.k6,h.el⟩
theorem xV.up{w:World}{S i:Nat}{v6:Value}{A:Option Addr}{n c:Nat}{l:List ByteArray}{B:Option Addr}{m d:Nat}{q:List ByteArray}{k:Nat}{xs:List ByteArray}{wr:World}(h:xV w S i v6 A n c l B m d q k xs wr):xV w S (i+1) v6 A n c l B m d q k xs wr:=
 ⟨h.need.up (Ki _ (Nu i)),h.no.up (Ki _ (Nu i)),h.row,h.ln,MJ h.k6,h.el⟩
theorem ve.next{w0 w w':World}{v6:Value}{A A':Option Addr}{n n' c c':Nat}{l l':List ByteArray}{j S i k:Nat}{xs:List ByteArray}(h:ve w0 v6 A n c l (i*(S+2)) w)(hrow:kO w0 v6 k xs w)(ht:TL w' A' n' c' l')(hn:n'<=n+j)(hj:j<=S+2)(hs:w.heap.size<=w'.heap.size)(hf:A'=A\/∀a,A'=some a->w.heap.size<=a.block/\a.block<w'.heap.size):ve w0 v6 A' n' c' l' ((i+1)*(S+2)) w':=by
 refine⟨ht,by have:=h.le;rw[Lk,Nat.one_mul];omega,fun a ha=>?_,fun a ha=>?_⟩
 ·rcases hf with rfl|hf
  ·exact h.ap a ha
  ·intro e;have h1:=(hf a ha).1;have h2:=hrow.lt a.block e.symm;omega
 ·rcases hf with rfl|hf
  ·exact Ka (h.lt a ha) hs
  ·exact(hf a ha).2
theorem ve.grown{w0 w w':World}{v6 v':Value}{A:Option Addr}{n c:Nat}{l:List ByteArray}{K:Nat}{o:Obj}(h:ve w0 v6 A n c l K w)(hg:(w.alloc o).grownBy w' v6.ownBlock)(hat:v'.ownBlock=v6.ownBlock\/v'.ownBlock=some (w.heap.size+1)):ve w0 v' A n c l K w':=by
 have hb:Below w.heap.size w (w.alloc o):=(Ju _ _).alloc (qL) _;refine⟨(h.tl.step hb).grown hg h.ap,h.le,fun a ha=>?_,fun a ha=>Ka (h.lt a ha) (KM hb.size hg.size)⟩;rcases hat with e|e
 ·rw[e];exact h.ap a ha
 ·rw[e];intro k;injection k with k
  have:=h.lt a ha;omega
theorem xV.grown{w:World}{S i:Nat}{v6 v':Value}{A:Option Addr}{n c:Nat}{l:List ByteArray}{B:Option Addr}{m d:Nat}{q:List ByteArray}{k:Nat}{xs:List ByteArray}{wr w':World}{z:ByteArray}{o:Obj}(need:ve w v6 A n c l ((i+1)*(S+2)) wr)(no:ve w v6 B m d q ((i+1)*(S+2)) wr)(row:kO w v6 k xs wr)(ln:xs.length=k)(k6:k<=i)(el:∀x∈xs,x.size<=1000000)(hz:z.size<=1000000)(ho:w'.ownsRow w.heap.size 9 1 v' (k+1) (aO bv xs++aO bv [z]))(hg:(wr.alloc o).grownBy w' v6.ownBlock)(hat:v'.ownBlock=v6.ownBlock\/v'.ownBlock=some (wr.heap.size+1)):xV w S (i+1) v' A n c l B m d q (k+1) (xs++[z]) w':=
 ⟨need.grown hg hat,no.grown hg hat,(row.alloc o).next rfl rfl ho hg,by simp[ln],by omega,fun x hx=>by
  rcases KI.1 hx with hx|hx
  ·exact el x hx
  ·obtain rfl:x=z:=by simpa using hx
   exact hz⟩
theorem xW(s:ByteArray)(w:World)(hS:dJ w)(hs:s.size<=5000):Calls prog 253 #[.string s] w (Gl 30000000 w):=by
 obtain⟨j0,hj0,hy0,hy1,hy2⟩:=LM fx;have HS:=qD hS;clear hS;go_enter func253,ntmps253;go_upto_region 5 with fail
 go_loopw [5,6,7,8,9,10,11,12,13,14] (fun v5 v6 v7 v8 v9 v10 _ _ _ _ wr=>∃(i b:Nat) (ins:Bool) (A:Option Addr) (n c:Nat) (l:List ByteArray) (B:Option Addr) (m d:Nat) (q:List ByteArray) (k:Nat) (xs:List ByteArray),i<=s.size+1/\v10=.int .i64 i/\v9=.int .i64 b/\v8=.bool ins/\b<=i/\v5=.slice A n c/\v7=.slice B m d/\xV w s.size i v6 A n c l B m d q k xs wr) (fun _ _ _ _ _ v10 _ _ _ _ _=>s.size+1-(intOf v10).toNat)
 ·exact⟨0,0,false,none,0,0,[],none,0,0,[],0,[],KD _,rfl,rfl,rfl,qL,rfl,rfl,⟨TL.zero,KD _,fun a ha=>(by cases ha),fun a ha=>(by cases ha)⟩,⟨TL.zero,KD _,fun a ha=>(by cases ha),fun a ha=>(by cases ha)⟩,⟨bX _ _ _ _,Ju _ _⟩,rfl,qL,by simp⟩
 case round=>
  obtain⟨i,b,ins,A,n,c,l,B,m,d,q,k,xs,hi,rfl,rfl,rfl,hbi0,rfl,rfl,hI⟩:=hrel;have HI:=qD hI;clear hI;by_cases hle:i<=s.size
  ·have j0':(i:Int)<=(s.size:Int):=by omega
   have ji:(0:Int)<=(i:Int):=by omega
   by_cases hlt:i<s.size
   ·have jl:(i:Int)<(s.size:Int):=by omega
    obtain⟨y,hy⟩:=eX hlt;cases hq34:(y==34)
    ·have hq35:(y != 34)=true:=by simpa using hq34
     go_wp2_with fail;go_roundw
     ·exact⟨i+1,b,ins,A,n,c,l,B,m,d,q,k,xs,by omega,by go_num,rfl,rfl,by omega,rfl,rfl,HI.out.up⟩
     ·simp[intOf];omega
    ·have hq35:(y != 34)=false:=by simpa using hq34
     have hbe:(s.extract b i).size<=s.size:=dF;have HPZ:Hid ((s.extract b i).size<=s.size):=qD hbe;have j2:(0:Int)<=(b:Int):=by omega
     have j3:(b:Int)<=(i:Int):=by omega
     have HHS:=qD hs;cases ins
     ·go_wp2_with fail;obtain⟨pt,hpt⟩:∃pt,s.extract b i=pt:=⟨_,rfl⟩;rw[hpt] at HPZ ⊢;clear hpt hbe;refine(pO pt _ (KM HPZ.out (by omega))).mono ?_;rintro e w2 ⟨A2,n2,c2,l2,B2,m2,d2,q2,rfl,ht2,ht3,hn2,hm2,hb⟩;replace HI:=qD (HI.out.step hb);have HT2:=qD ht2;have HT3:=qD ht3;clear hb ht2 ht3;have hna:n<=i*(s.size+2):=HI.out.need.le;have hnb:m<=i*(s.size+2):=HI.out.no.le;have hmul:i*(s.size+2)<=5001*5002:=Li (by omega) (by omega);have hps:=HPZ.out;go_wp2_with fail;refine(eh l l2 A A2 n c n2 c2 w2 (HS.out.step HI.out.row.bel) HI.out.need.tl HT2.out (by omega)).mono ?_;rintro e w3 ⟨A4,n4,c4,l4,rfl,ht4,hn4,hb,hf4⟩;have HN4:=qD (HI.out.need.next HI.out.row ht4 hn4 (show n2<=s.size+2 by omega) hb.size hf4);replace HI:=qD (HI.out.step hb);replace HT3:=qD (HT3.out.step hb);clear hb ht4 hf4;go_wp2_with fail;refine(eh q q2 B B2 m d m2 d2 w3 (HS.out.step HI.out.row.bel) HI.out.no.tl HT3.out (by omega)).mono ?_;rintro e w4 ⟨A5,n5,c5,l5,rfl,ht5,hn5,hb,hf5⟩;have HN5:=qD (HI.out.no.next HI.out.row ht5 hn5 (show m2<=s.size+2 by omega) hb.size hf5);replace HI:=qD (HI.out.step hb);replace HN4:=qD (HN4.out.step hb);clear hb ht5 hf5;have HX:Hid (xV w s.size (i+1) u6 A4 n4 c4 l4 A5 n5 c5 l5 k xs w4):=qD ⟨HN4.out,HN5.out,HI.out.row,HI.out.ln,MJ HI.out.k6,HI.out.el⟩;go_wp2_with fail;go_roundw
      ·exact⟨i+1,i+1,true,A4,n4,c4,l4,A5,n5,c5,l5,k,xs,by omega,by go_num,by go_num,rfl,qL,rfl,rfl,HX.out⟩
      ·simp[intOf];omega
     ·go_wp2_with fail;obtain⟨pt,hpt⟩:∃pt,s.extract b i=pt:=⟨_,rfl⟩;rw[hpt] at HPZ ⊢;clear hpt hbe;refine(kP pt _ (KM HPZ.out (by omega))).mono ?_;rintro e w2 ⟨A2,n2,c2,l2,rfl,ht2,hn2,hb,_⟩;replace HI:=qD (HI.out.step hb);have HT2:=qD ht2;clear hb ht2;have hna:n<=i*(s.size+2):=HI.out.need.le;have hmul:i*(s.size+2)<=5001*5002:=Li (by omega) (by omega);have hps:=HPZ.out;go_wp2_with fail;refine(eh l l2 A A2 n c n2 c2 w2 (HS.out.step HI.out.row.bel) HI.out.need.tl HT2.out (by omega)).mono ?_;rintro e w3 ⟨A4,n4,c4,l4,rfl,ht4,hn4,hb,hf4⟩;have HN4:=qD (HI.out.need.next HI.out.row ht4 hn4 (show n2<=s.size+2 by omega) hb.size hf4);replace HI:=qD (HI.out.step hb);clear hb ht4 hf4;go_wp2_with fail;refine(rS pt w3 (by omega)).mono ?_;rintro e w4 ⟨z1,rfl,hz1,hb⟩;replace HI:=qD (HI.out.step hb);replace HN4:=qD (HN4.out.step hb);clear hb;go_wp2_with fail;refine(dE z1 w4 (by omega)).mono ?_;rintro e w5 ⟨z,rfl,hz,hb⟩;replace HI:=qD (HI.out.step hb);replace HN4:=qD (HN4.out.step hb);have HZ:Hid (z.size<=1000000):=qD (by omega);have HX:Hid (xV w s.size (i+1) u6 A4 n4 c4 l4 B m d q k xs w5):=qD ⟨HN4.out,HI.out.no.up (Ki _ (Nu i)),HI.out.row,HI.out.ln,MJ HI.out.k6,HI.out.el⟩;have hki:=HI.out.k6;clear hb hz hz1;obtain⟨A6,c6,rfl,ht6,_⟩:=TL.Ik HI.out.row.own HI.out.ln HI.out.el;have HT6:=qD ht6;clear ht6;cases hz0:z.toList.isEmpty
      ·go_wp2_with fail;refine(kN xs z A6 k c6 w5 HT6.out (by omega)).mono ?_;rintro e w6 ⟨r,rfl,_,hb⟩;replace HI:=qD (HI.out.step hb);replace HX:=qD (HX.out.step hb);clear hb HT6;cases r
       ·have hlo:w.heap.size<=w6.heap.size:=HI.out.row.bel.size;go_wp2_with (at_builtin;refine aJ _ rfl _ _ 25 rfl w.heap.size 9 j0 (.string empty) 1 16 Kr hj0 hy0 hy1 hy2 rfl (by decide) (.slice A6 k c6) k (aO bv (xs)) rfl (HI.out.row.alloc _).own _ _ 1 _ (aO bv [z]) rfl ⟨rfl,fun _=>⟨_,rfl,Km _,ao _ _ _⟩⟩ ?c1 (by unfold maxLen;omega) (by omega) (cg hlo _) ?_)
        case c1=>exact bf _
        intro v' w7 ho hg hat;have HY:=qD (xV.grown HX.out.need HX.out.no HI.out.row HI.out.ln HI.out.k6 HI.out.el HZ.out ho hg hat);clear ho hg hat;go_wp2_with fail;go_roundw
        ·exact⟨i+1,i+1,false,A4,n4,c4,l4,B,m,d,q,k+1,xs++[z],by omega,by go_num,by go_num,rfl,qL,rfl,rfl,HY.out⟩
        ·simp[intOf];omega
       ·go_wp2_with fail;go_roundw
        ·exact⟨i+1,i+1,false,A4,n4,c4,l4,B,m,d,q,k,xs,by omega,by go_num,by go_num,rfl,qL,rfl,rfl,HX.out⟩
        ·simp[intOf];omega
      ·go_wp2_with fail;go_roundw
       ·exact⟨i+1,i+1,false,A4,n4,c4,l4,B,m,d,q,k,xs,by omega,by go_num,by go_num,rfl,qL,rfl,rfl,HX.out⟩
       ·simp[intOf];omega
   ·have jl:¬(i:Int)<(s.size:Int):=by omega
    have jn:¬i<s.size:=hlt;have hbe:(s.extract b i).size<=s.size:=dF;have HPZ:Hid ((s.extract b i).size<=s.size):=qD hbe;have j2:(0:Int)<=(b:Int):=by omega
    have j3:(b:Int)<=(i:Int):=by omega
    have HHS:=qD hs;cases ins
    ·go_wp2_with fail;obtain⟨pt,hpt⟩:∃pt,s.extract b i=pt:=⟨_,rfl⟩;rw[hpt] at HPZ ⊢;clear hpt hbe;refine(pO pt _ (KM HPZ.out (by omega))).mono ?_;rintro e w2 ⟨A2,n2,c2,l2,B2,m2,d2,q2,rfl,ht2,ht3,hn2,hm2,hb⟩;replace HI:=qD (HI.out.step hb);have HT2:=qD ht2;have HT3:=qD ht3;clear hb ht2 ht3;have hna:n<=i*(s.size+2):=HI.out.need.le;have hnb:m<=i*(s.size+2):=HI.out.no.le;have hmul:i*(s.size+2)<=5001*5002:=Li (by omega) (by omega);have hps:=HPZ.out;go_wp2_with fail;refine(eh l l2 A A2 n c n2 c2 w2 (HS.out.step HI.out.row.bel) HI.out.need.tl HT2.out (by omega)).mono ?_;rintro e w3 ⟨A4,n4,c4,l4,rfl,ht4,hn4,hb,hf4⟩;have HN4:=qD (HI.out.need.next HI.out.row ht4 hn4 (show n2<=s.size+2 by omega) hb.size hf4);replace HI:=qD (HI.out.step hb);replace HT3:=qD (HT3.out.step hb);clear hb ht4 hf4;go_wp2_with fail;refine(eh q q2 B B2 m d m2 d2 w3 (HS.out.step HI.out.row.bel) HI.out.no.tl HT3.out (by omega)).mono ?_;rintro e w4 ⟨A5,n5,c5,l5,rfl,ht5,hn5,hb,hf5⟩;have HN5:=qD (HI.out.no.next HI.out.row ht5 hn5 (show m2<=s.size+2 by omega) hb.size hf5);replace HI:=qD (HI.out.step hb);replace HN4:=qD (HN4.out.step hb);clear hb ht5 hf5;have HX:Hid (xV w s.size (i+1) u6 A4 n4 c4 l4 A5 n5 c5 l5 k xs w4):=qD ⟨HN4.out,HN5.out,HI.out.row,HI.out.ln,MJ HI.out.k6,HI.out.el⟩;go_wp2_with fail;go_roundw
     ·exact⟨i+1,i+1,true,A4,n4,c4,l4,A5,n5,c5,l5,k,xs,by omega,by go_num,by go_num,rfl,qL,rfl,rfl,HX.out⟩
     ·simp[intOf];omega
    ·go_wp2_with fail;obtain⟨pt,hpt⟩:∃pt,s.extract b i=pt:=⟨_,rfl⟩;rw[hpt] at HPZ ⊢;clear hpt hbe;refine(kP pt _ (KM HPZ.out (by omega))).mono ?_;rintro e w2 ⟨A2,n2,c2,l2,rfl,ht2,hn2,hb,_⟩;replace HI:=qD (HI.out.step hb);have HT2:=qD ht2;clear hb ht2;have hna:n<=i*(s.size+2):=HI.out.need.le;have hmul:i*(s.size+2)<=5001*5002:=Li (by omega) (by omega);have hps:=HPZ.out;go_wp2_with fail;refine(eh l l2 A A2 n c n2 c2 w2 (HS.out.step HI.out.row.bel) HI.out.need.tl HT2.out (by omega)).mono ?_;rintro e w3 ⟨A4,n4,c4,l4,rfl,ht4,hn4,hb,hf4⟩;have HN4:=qD (HI.out.need.next HI.out.row ht4 hn4 (show n2<=s.size+2 by omega) hb.size hf4);replace HI:=qD (HI.out.step hb);clear hb ht4 hf4;go_wp2_with fail;refine(rS pt w3 (by omega)).mono ?_;rintro e w4 ⟨z1,rfl,hz1,hb⟩;replace HI:=qD (HI.out.step hb);replace HN4:=qD (HN4.out.step hb);clear hb;go_wp2_with fail;refine(dE z1 w4 (by omega)).mono ?_;rintro e w5 ⟨z,rfl,hz,hb⟩;replace HI:=qD (HI.out.step hb);replace HN4:=qD (HN4.out.step hb);have HZ:Hid (z.size<=1000000):=qD (by omega);have HX:Hid (xV w s.size (i+1) u6 A4 n4 c4 l4 B m d q k xs w5):=qD ⟨HN4.out,HI.out.no.up (Ki _ (Nu i)),HI.out.row,HI.out.ln,MJ HI.out.k6,HI.out.el⟩;have hki:=HI.out.k6;clear hb hz hz1;obtain⟨A6,c6,rfl,ht6,_⟩:=TL.Ik HI.out.row.own HI.out.ln HI.out.el;have HT6:=qD ht6;clear ht6;cases hz0:z.toList.isEmpty
     ·go_wp2_with fail;refine(kN xs z A6 k c6 w5 HT6.out (by omega)).mono ?_;rintro e w6 ⟨r,rfl,_,hb⟩;replace HI:=qD (HI.out.step hb);replace HX:=qD (HX.out.step hb);clear hb HT6;cases r
      ·have hlo:w.heap.size<=w6.heap.size:=HI.out.row.bel.size;go_wp2_with (at_builtin;refine aJ _ rfl _ _ 25 rfl w.heap.size 9 j0 (.string empty) 1 16 Kr hj0 hy0 hy1 hy2 rfl (by decide) (.slice A6 k c6) k (aO bv (xs)) rfl (HI.out.row.alloc _).own _ _ 1 _ (aO bv [z]) rfl ⟨rfl,fun _=>⟨_,rfl,Km _,ao _ _ _⟩⟩ ?c1 (by unfold maxLen;omega) (by omega) (cg hlo _) ?_)
       case c1=>exact bf _
       intro v' w7 ho hg hat;have HY:=qD (xV.grown HX.out.need HX.out.no HI.out.row HI.out.ln HI.out.k6 HI.out.el HZ.out ho hg hat);clear ho hg hat;go_wp2_with fail;go_roundw
       ·exact⟨i+1,i+1,false,A4,n4,c4,l4,B,m,d,q,k+1,xs++[z],by omega,by go_num,by go_num,rfl,qL,rfl,rfl,HY.out⟩
       ·simp[intOf];omega
      ·go_wp2_with fail;go_roundw
       ·exact⟨i+1,i+1,false,A4,n4,c4,l4,B,m,d,q,k,xs,by omega,by go_num,by go_num,rfl,qL,rfl,rfl,HX.out⟩
       ·simp[intOf];omega
     ·go_wp2_with fail;go_roundw
      ·exact⟨i+1,i+1,false,A4,n4,c4,l4,B,m,d,q,k,xs,by omega,by go_num,by go_num,rfl,qL,rfl,rfl,HX.out⟩
      ·simp[intOf];omega
  ·have j0':¬(i:Int)<=(s.size:Int):=by omega
   have jn:¬i<=s.size:=hle;have hna:n<=i*(s.size+2):=HI.out.need.le;have hnb:m<=i*(s.size+2):=HI.out.no.le;have hmul:i*(s.size+2)<=5001*5002:=Li (by omega) (by omega);have hki:=HI.out.k6;go_wp2_with fail;obtain⟨A6,c6,rfl,ht6,_⟩:=TL.Ik HI.out.row.own HI.out.ln HI.out.el
   go_ret3
   exact⟨A,n,c,l,A6,k,c6,xs,B,m,d,q,rfl,HI.out.need.tl,ht6,HI.out.no.tl,by omega,by omega,by omega,HI.out.row.bel⟩
theorem xX(s x:ByteArray)(w:World)(hS:dJ w)(hs:s.size<=5000)(hx:x.size<=5000):Calls prog 208 #[.string s,.string x] w (am (fun _=>True) w):=by
 have HS:=qD hS;clear hS;go_enter func208,ntmps208;go_wp2_with fail;refine(xW s w HS.out hs).mono ?_;rintro e w1 ⟨A,n,c,l,B,m,d,k,C,o,f,q,rfl,h1,h2,h3,hn,hm,ho,hb⟩;have T1:=qD h1;have T2:=qD h2;have T3:=qD h3;have HB:=qD hb;clear h1 h2 h3 hb;go_wp2_with fail;refine(xM x w1 (HS.out.step HB.out) (by omega)).mono ?_;rintro e w2 ⟨D,y,g,z,rfl,h4,hy,hb,_⟩;have T4:=qD h4;replace T1:=qD (T1.out.step hb);replace T2:=qD (T2.out.step hb);replace T3:=qD (T3.out.step hb);replace HB:=qD (HB.out.Ih hb);clear h4 hb
 go_upto_block 0 with fail
 go_cut [9] (fun v wx=>∃r:Bool,v=.bool r/\Below w2.heap.size w2 wx)
 case first=>
  go_wp2_with fail
  go_loopw [9,10] (fun v9 v10 wr=>∃(i:Nat) (r:Bool),i<=n/\v10=.int .i64 i/\v9=.bool r/\Below w2.heap.size w2 wr) (fun _ v10 _=>n-(intOf v10).toNat)
  ·exact⟨0,_,KD _,rfl,rfl,Ju _ _⟩
  case round=>
   obtain⟨i,r,hi,rfl,rfl,hb⟩:=hrel;have HC:=qD hb;by_cases hlt:i<n
   ·obtain⟨b,off,t,rfl,hbb,ht,e0⟩:=T1.out.sr.JH hlt;have e1:=(hb.cell (p:=⟨b,off+i,none⟩) hbb).trans e0;have i0:(0:Int)<=(i:Int):=by omega
    have i1:(i:Int)<(n:Int):=by omega
    clear hb e0 ht;cases r
    ·go_wp2_with fail;refine(kN z t D y g wr (T4.out.step HC.out) (by omega)).mono ?_;rintro e w3 ⟨r,rfl,_,hb⟩;replace HC:=qD (HC.out.Ih hb);clear hb e1;go_wp2_with fail;go_roundw
     ·exact⟨i+1,r,by omega,by go_num,rfl,HC.out⟩
     ·simp[intOf];omega
    ·go_wp2_with fail;go_roundw
     ·exact⟨i+1,true,by omega,by go_num,rfl,HC.out⟩
     ·simp[intOf];omega
   ·obtain rfl:i=n:=by omega
    clear hb;go_wp2_with fail;go_meet;exact⟨r,rfl,HC.out⟩
 case rest=>
  obtain⟨r0,rfl,hb⟩:=hcut;replace T2:=qD (T2.out.step hb);replace T3:=qD (T3.out.step hb);replace T4:=qD (T4.out.step hb);replace HB:=qD (HB.out.Ih hb);clear hb T1;generalize wc=w3 at*
  go_upto_block 2 with fail
  go_cut [9] (fun v wx=>∃r:Bool,v=.bool r/\Below w3.heap.size w3 wx)
  case first=>
   go_wp2_with fail
   go_loopw [9,11] (fun v9 v11 wr=>∃(i:Nat) (r:Bool),i<=m/\v11=.int .i64 i/\v9=.bool r/\Below w3.heap.size w3 wr) (fun _ v11 _=>m-(intOf v11).toNat)
   ·exact⟨0,_,KD _,rfl,rfl,Ju _ _⟩
   case round=>
    obtain⟨i,r,hi,rfl,rfl,hb⟩:=hrel;have HC:=qD hb;by_cases hlt:i<m
    ·obtain⟨b,off,t,rfl,hbb,ht,e0⟩:=T2.out.sr.JH hlt;have e1:=(hb.cell (p:=⟨b,off+i,none⟩) hbb).trans e0;have HTZ:Hid (t.size<=1000000):=qD (T2.out.el t (Jx ht));have i0:(0:Int)<=(i:Int):=by omega
     have i1:(i:Int)<(m:Int):=by omega
     have hbl:b<wr.heap.size:=Ka hbb hb.size;clear hb e0 ht;cases r
     ·go_upto_region 11 with fail
      go_quiet (fail)
      go_wp2_with fail;go_roundw
      ·exact⟨i+1,false,by omega,by go_num,rfl,HC.out.Ih (Below.drewN (Ju _ _) _)⟩
      ·simp[intOf];omega
     ·go_upto_region 11 with fail
      have B:=qD ((Ju wr.heap.size wr).drew);have KS:Hid (∀w',Below wr.heap.size wr w'->(fun w'=>w'.cell? ⟨b,off+i,none⟩=some (.string t)) w'):=qD fun w' hb=>(hb.cell (p:=⟨b,off+i,none⟩) hbl).trans e1;clear e1;refine Kn ?_;refine Kg (S:=(fun w'=>w'.cell? ⟨b,off+i,none⟩=some (.string t))) (by kernel_rfl) ?_ (fun hHeld=>?_)
      ·(try dsimp only);exact KS.out _ B.out
      refine rU 0 rfl ?_
      try go_frame
      refine rU 1 rfl ?_
      try go_frame
      refine rU 2 rfl ?_
      try go_frame
      refine rU 3 rfl ?_
      try go_frame
      refine rU 4 rfl ?_
      try go_frame
      refine rU 5 rfl ?_
      try go_frame
      refine rU 6 rfl ?_
      try go_frame
      refine rY 7 rfl fun K hK=>?_;go_simp;refine(dE x _ (by omega)).mono ?_;rintro e3 w5 ⟨u,rfl,hu,hb3⟩;replace B:=qD (B.out.Ih hb3);have HU:=qD hu;clear hb3 hu
      (try go_wp2_with fail)
      clear hHeld;refine hK.out _ _ (KS.out _ B.out) fun hHeld=>?_;clear hK K
      try go_frame
      refine rY 8 rfl fun K hK=>?_;go_simp;refine(un t u _ (KM HTZ.out (by decide)) (KM HU.out (by omega))).mono ?_;rintro e4 w6 ⟨r6,rfl,_,hb3⟩;replace B:=qD (B.out.Ih hb3);clear hb3
      (try go_wp2_with fail)
      clear hHeld;refine hK.out _ _ (KS.out _ B.out) fun hHeld=>?_;clear hK K
      try go_frame
      refine rU 9 rfl ?_
      try go_frame
      refine rU 10 rfl ?_
      try go_frame
      refine rD ?_ _;refine Kq ?_;clear hHeld;go_wp2_with fail;go_roundw
      ·exact⟨i+1,r6,by omega,by go_num,rfl,HC.out.Ih B.out⟩
      ·simp[intOf];omega
    ·obtain rfl:i=m:=by omega
     clear hb;go_wp2_with fail;go_meet;exact⟨r,rfl,HC.out⟩
  case rest=>
   obtain⟨r1,rfl,hb⟩:=hcut;replace T3:=qD (T3.out.step hb);replace T4:=qD (T4.out.step hb);replace HB:=qD (HB.out.Ih hb);clear hb T2;generalize wc=w4 at*
   go_upto_block 4 with fail
   go_cut [9] (fun v wx=>∃r:Bool,v=.bool r/\Below w4.heap.size w4 wx)
   case first=>
    go_wp2_with fail
    go_loopw [9,12] (fun v9 v12 wr=>∃(i:Nat) (r:Bool),i<=o/\v12=.int .i64 i/\v9=.bool r/\Below w4.heap.size w4 wr) (fun _ v12 _=>o-(intOf v12).toNat)
    ·exact⟨0,_,KD _,rfl,rfl,Ju _ _⟩
    case round=>
     obtain⟨i,r,hi,rfl,rfl,hb⟩:=hrel;have HC:=qD hb;by_cases hlt:i<o
     ·obtain⟨b,off,t,rfl,hbb,ht,e0⟩:=T3.out.sr.JH hlt;have e1:=(hb.cell (p:=⟨b,off+i,none⟩) hbb).trans e0;have i0:(0:Int)<=(i:Int):=by omega
      have i1:(i:Int)<(o:Int):=by omega
      clear hb e0 ht;cases r
      ·go_wp2_with fail;go_roundw
       ·exact⟨i+1,false,by omega,by go_num,rfl,HC.out⟩
       ·simp[intOf];omega
      ·go_wp2_with fail;refine(kN z t D y g wr (T4.out.step HC.out) (by omega)).mono ?_;rintro e w5 ⟨r,rfl,_,hb⟩;replace HC:=qD (HC.out.Ih hb);clear hb e1;go_wp2_with fail;go_roundw
       ·exact⟨i+1,!r,by omega,by go_num,rfl,HC.out⟩
       ·simp[intOf];omega
     ·obtain rfl:i=o:=by omega
      clear hb;go_wp2_with fail;go_meet;exact⟨r,rfl,HC.out⟩
   case rest=>
    obtain⟨r2,rfl,hb⟩:=hcut;have HC:=qD (HB.out.Ih hb);have hnn:(n:Int)<=30000000:=by omega
    have hmm:(m:Int)<=30000000:=by omega
    clear hb;cases r2
    all_goals
     go_wp2_with fail;go_ret;exact am.of trivial HC.out
def gP(n:Int):Bool:=decide (0<=n)&&decide (n<65536)
theorem iN{n:Int}(h:gP n=true):0<=n/\n<65536:=by simpa[gP] using h
theorem AM{n:Int}(h0:0<=n)(h1:n<65536):gP n=true:=by simp[gP,h0,h1]
theorem pW{n:Int}(h:¬(0<=n/\n<65536)):gP n=false:=by
 cases hb:gP n
 ·rfl
 ·exact absurd (iN hb) h
abbrev pt(x y:Int):Value:=.agg #[.int .i64 x,.int .i64 y]
def bi(x y:Int):Bool:=gP x&&gP y
theorem gH{x y:Int}(h:bi x y=true):0<=x/\x<65536/\0<=y/\y<65536:=by
 simp[bi] at h;have h1:=iN h.1;have h2:=iN h.2;omega
def mg(ax ay bx by':Int):Int:=if bi ax ay&&bi bx by' then(ax-bx)*(ax-bx)+(ay-by')*(ay-by') else -1
theorem kT{a b:Int}(h1:-65536<a)(h2:a<65536)(h3:-65536<b)(h4:b<65536):-4294967296<a*b/\a*b<4294967296:=by
 have:(a*b).natAbs<4294967296:=by
  rw[Int.natAbs_mul]
  calc a.natAbs*b.natAbs<=65535*65535:=Li (by omega) (by omega)
   _<_:=by decide
 omega
theorem Ce{a b:Bool}(h:a=b):Ending.returned (.bool a)=.returned (.bool b):=by rw[h]
theorem Cf{k:IntKind}{a b:Int}(h:a=b):Ending.returned (.int k a)=.returned (.int k b):=by rw[h]
def gI(ax ay bx by' px py:Int):Int:=(bx-ax)*(py-ay)-(by'-ay)*(px-ax)
def pX(ax ay bx by' px py:Int):Bool:=
 gI ax ay bx by' px py==0&&(decide (min ax bx<=px)&&(decide (px<=max ax bx)&&(decide (min ay by'<=py)&&decide (py<=max ay by'))))
def nT(ax ay bx by' px py:Int):Bool:=
 if decide (py<ay)==decide (py<by') then false else if by'<ay then decide (0<gI bx by' ax ay px py) else decide (0<gI ax ay bx by' px py)
def kU(w:World)(A:Option Addr)(n:Nat)(ps:List (Int×Int)):Prop:=
 ps.length=n/\n<=maxLen/\(0<n->∃b off,A=some ⟨b,off,none⟩/\b<w.heap.size/\∀i x y,ps[i]?=some (x,y)->w.cell? ⟨b,off+i*2,none⟩=some (.int .i64 x)/\w.cell? ⟨b,off+i*2+1,none⟩=some (.int .i64 y))
theorem kU.below{w w':World}{A:Option Addr}{n:Nat}{ps:List (Int×Int)}(h:kU w A n ps)(hb:Below w.heap.size w w'):kU w' A n ps:=by
 refine⟨h.1,h.2.1,fun hn=>?_⟩;obtain⟨b,off,hA,hlt,hc⟩:=h.2.2 hn;refine⟨b,off,hA,Ka hlt hb.size,fun i x y hi=>?_⟩;obtain⟨h1,h2⟩:=hc i x y hi;exact⟨(hb.cell (p:=⟨b,_,none⟩) hlt).trans h1,(hb.cell (p:=⟨b,_,none⟩) hlt).trans h2⟩
abbrev Gm(k:Int)(A:Option Addr)(n c:Nat)(r:Int):Value:=.agg #[.int .i64 k,.slice A n c,.int .i64 r]
def iO(k n r:Int):Bool:=
 if k==1 then(if n=2 then r==0 else false) else if k==2 then(if n=1 then gP r else false) else if k==3 then(if 3<=n then if n<=64 then r==0 else false else false) else false
def dt(k:Int)(ps:List (Int×Int))(r:Int):Bool:=iO k ps.length r&&ps.all fun p=>bi p.1 p.2
def oC(b:Bool):Int:=if b then 0 else 18
theorem pY(k:Int)(ps:List (Int×Int))(r:Int)(h:iO k ps.length r=false):dt k ps r=false:=by simp[dt,h]
theorem Cg(k:Int)(ps:List (Int×Int))(r:Int)(h:iO k ps.length r=true)(i:Nat)(x y:Int)(hi:ps[i]?=some (x,y))(hp:bi x y=false):dt k ps r=false:=by
 simp only[dt,h,Mt];cases hb:ps.all fun p=>bi p.1 p.2
 ·rfl
 ·rw[Mg] at hb;have:=hb (x,y) (Jx hi);simp[hp] at this
theorem AN(k:Int)(ps:List (Int×Int))(r:Int)(h:iO k ps.length r=true)(hp:∀(i:Nat) x y,ps[i]?=some (x,y)->bi x y=true):dt k ps r=true:=by
 simp only[dt,h,Mt,Mg];rintro⟨x,y⟩ hm;obtain⟨i,hi⟩:=LP hm;exact hp i x y hi
theorem EN(g:Nat)(x y:Int)(W:World)(q0:W.cell? ⟨g,0,none⟩=some (.int .i64 x))(q1:W.cell? ⟨g,1,none⟩=some (.int .i64 y)):
 (loadVar 174 ⟨g,0,none⟩).run prog W=.ok (pt x y) W:=by
 simp[go_sem,q0,q1]
def EO(k0 n0 k1 n1:Int):Bool:=if k0==3 then if k1==3 then bi n0 n1 else false else false
def pZ(k0 n0 k1 n1:Int):Value:=if EO k0 n0 k1 n1 then .tuple #[pt n0 n1,.int .i64 0] else .tuple #[pt 0 0,.int .i64 18]
theorem fM{fn:Func}{p u:Tmp}(h:fn.results=#[.cell p 174,.tmp u])(tmps:Array Value)(g1:Nat)(h1:tmps.getD p undef=.pointer (some ⟨g1,0,none⟩))(e:Value)(h2:tmps.getD u undef=e)(W:World)(x1 y1:Int)(q0:W.cell? ⟨g1,0,none⟩=some (.int .i64 x1))(q1:W.cell? ⟨g1,1,none⟩=some (.int .i64 y1)):
 (results fn tmps).run prog W=.ok (.tuple #[pt x1 y1,e]) W:=by
 rw[Ob h,h1,h2];simp[asAddr,EN g1 x1 y1 W q0 q1]
def sx:ByteArray:=⟨#[120]⟩
def sy:ByteArray:=⟨#[121]⟩
def mh(g:FuncId)(w:World)(v:VC)(name:ByteArray)(k n:Int):Prop:=
 ∀W,Below w.heap.size w W->Calls prog g #[v.val,.string name] W fun e w'=>∃(x:VC) (ok:Bool),x.k=k/\x.n=n/\e=.returned (.tuple #[x.val,.bool ok])/\Below W.heap.size W w'
end
inductive Gn (g:FuncId) (w:World) (v:VC) (k0 n0 k1 n1:Int):Prop where
 | list (a0 a1:VC) (b off:Nat) (hk:v.k=6) (hA:v.LA=some ⟨b,off,none⟩) (hl:v.ln=2) (h0:aS w b off a0) (h1:aS w b (off+5) a1) (e:k0=a0.k/\n0=a0.n/\k1=a1.k/\n1=a1.n)
 | doc (hk:v.k=5) (hd:v.dn=2) (hx:mh g w v sx k0 n0) (hy:mh g w v sy k1 n1)
 | none_ (h6:v.k=6->v.ln≠2) (h5:v.k=5->v.dn≠2) (e:k0=0/\n0=0/\k1=0/\n1=0)
section
variable {r:List ByteArray} {b c k i g n q size:Nat} {a x y:Int} {w w':World} {A:Option Addr} {e:TypeId} {v:Value}
def Hy(w:World)(k0 n0 k1 n1:Int)(wr:World):Prop:=
 ∃x y:VC,x.k=k0/\x.n=n0/\y.k=k1/\y.n=n1/\aG wr (w.heap.size+1) 174 #[.int .i64 0,.int .i64 0]/\aG wr (w.heap.size+2) 29 x.arr/\aG wr (w.heap.size+3) 29 y.arr/\Below w.heap.size w wr
theorem tD(n:Int)(w:World):
 Calls prog 140 #[.int .i64 n] w fun e w'=>e=.returned (.bool (gP n))/\w=w':=by
 by_cases h0:0<=n
 ·by_cases h1:n<65536
  ·have hc:=qD (AM h0 h1);go_enter func140,OX
   go_wp2
   go_ret;exact⟨by rw[hc.out];rfl,rfl⟩
  ·have hc:=qD (pW (n:=n) (by omega));go_enter func140,OX
   go_wp2
   go_ret;exact⟨by rw[hc.out];rfl,rfl⟩
 ·have hc:=qD (pW (n:=n) (by omega));go_enter func140,OX
  go_wp2
  go_ret;exact⟨by rw[hc.out];rfl,rfl⟩
theorem ft(x y:Int)(w:World):
 Calls prog 139 #[pt x y] w fun e w'=>e=.returned (.bool (bi x y))/\Below w.heap.size w w':=by
 cases h0:gP x
 ·have hc:Hid (bi x y=false):=by simp[bi,h0,Hid]
  go_enter func139,ntmps139;go_wp2_with (go_at_call 140;refine(tD _ _).mono ?_;rintro e w' ⟨rfl,rfl⟩);go_ret;exact⟨by rw[hc.out];rfl,(Ju _ _).alloc (qL) _⟩
 ·have hc:Hid (bi x y=gP y):=by simp[bi,h0,Hid]
  go_enter func139,ntmps139;go_wp2_with (go_at_call 140;refine(tD _ _).mono ?_;rintro e w' ⟨rfl,rfl⟩);go_ret;exact⟨by rw[hc.out];rfl,(Ju _ _).alloc (qL) _⟩
theorem qY(ax ay bx by':Int)(w:World):
 Calls prog 251 #[pt ax ay,pt bx by'] w fun e w'=>e=.returned (.int .i64 (mg ax ay bx by'))/\Below w.heap.size w w':=by
 cases h0:bi ax ay
 ·have hc:Hid (mg ax ay bx by'=-1):=by simp[mg,h0,Hid]
  go_enter func251,ntmps251;go_wp2_with (go_at_call 139;refine(ft _ _ _).mono ?_;rintro e w1 ⟨rfl,hb⟩);go_ret;exact⟨by rw[hc.out];rfl,(((Ju _ _).alloc (qL) _).alloc (by simp) _).trans (hb.mono (by simp;omega))⟩
 ·cases h1:bi bx by'
  ·have hc:Hid (mg ax ay bx by'=-1):=by simp[mg,h1,Hid]
   go_enter func251,ntmps251;go_wp2_with fail;refine(ft _ _ _).mono ?_;rintro e w1 ⟨rfl,hb⟩;obtain⟨hc1,hf1⟩:=tZ hb;go_wp2_with fail;refine(ft _ _ _).mono ?_;rintro e w2 ⟨rfl,hb2⟩;go_wp2_with fail;go_ret;exact⟨by rw[hc.out];rfl,((((Ju _ _).alloc (qL) _).alloc (by simp) _).trans (hb.mono (by simp;omega))).trans (hb2.mono (by have:=hb.size;simp at this;omega))⟩
  ·have hc:Hid (mg ax ay bx by'=(ax-bx)*(ax-bx)+(ay-by')*(ay-by')):=by simp[mg,h0,h1,Hid]
   obtain⟨a1,a2,a3,a4⟩:=gH h0;obtain⟨b1,b2,b3,b4⟩:=gH h1;have sx:=kT (a:=ax-bx) (b:=ax-bx) (by omega) (by omega) (by omega) (by omega);have sy:=kT (a:=ay-by') (b:=ay-by') (by omega) (by omega) (by omega) (by omega);go_enter func251,ntmps251;go_wp2_with fail;refine(ft _ _ _).mono ?_;rintro e w1 ⟨rfl,hb⟩;obtain⟨hc1,hf1⟩:=tZ hb;go_wp2_with fail;refine(ft _ _ _).mono ?_;rintro e w2 ⟨rfl,hb2⟩;replace hb:=hb.step hb2;clear hb2 hc1 hf1;obtain⟨hc1,hf1⟩:=tZ hb;go_wp2_with fail;go_ret;exact⟨by rw[hc.out];rfl,(((Ju _ _).alloc (qL) _).alloc (by simp) _).trans (hb.mono (by simp;omega))⟩
theorem xY(ax ay bx by' px py:Int)(w:World)(ha:bi ax ay=true)(hb:bi bx by'=true)(hp:bi px py=true):
 Calls prog 295 #[pt ax ay,pt bx by',pt px py] w fun e w'=>e=.returned (.int .i64 (gI ax ay bx by' px py))/\Below w.heap.size w w':=by
 obtain⟨a1,a2,a3,a4⟩:=gH ha;obtain⟨b1,b2,b3,b4⟩:=gH hb;obtain⟨p1,p2,p3,p4⟩:=gH hp;clear ha hb hp;have sx:=kT (a:=bx-ax) (b:=py-ay) (by omega) (by omega) (by omega) (by omega);have sy:=kT (a:=by'-ay) (b:=px-ax) (by omega) (by omega) (by omega) (by omega);go_enter func295,ntmps295;go_wp2_with fail;go_ret;exact⟨rfl,(((Ju _ _).alloc (qL) _).alloc (by simp) _).alloc (by simp;omega) _⟩
def eL(n a b:Int):Bool:=decide (min a b<=n)&&decide (n<=max a b)
theorem gJ(n a b:Int)(w:World):
 Calls prog 250 #[.int .i64 n,.int .i64 a,.int .i64 b] w fun e w'=>e=.returned (.bool (eL n a b))/\w=w':=by
 go_enter func250,ntmps250;go_wp2_with fail
 all_goals go_ret
 all_goals refine⟨Ce ?_,rfl⟩
 all_goals (rw[Kc];simp[eL, *];try omega)
def gU(q k:Int)(n:Nat):Bool:=if k==q then((n:Int)==2) else false
theorem uy{q k:Int}{n:Nat}(h:k=q->n≠2):gU q k n=false:=by
 unfold gU;split
 ·rename_i hq
  have:=h (by simpa using hq);simp;omega
 ·rfl
def Gp(w:World)(v:VC)(k0 n0 k1 n1:Int)(wr:World):Prop:=
 (v.k≠5/\∃x y:VC,x.k=k0/\x.n=n0/\y.k=k1/\y.n=n1/\aG wr w.heap.size 29 v.arr/\aG wr (w.heap.size+1) 174 #[.int .i64 0,.int .i64 0]/\aG wr (w.heap.size+2) 29 x.arr/\aG wr (w.heap.size+3) 29 y.arr/\Below w.heap.size w wr)\/
 (aG wr w.heap.size 29 v.arr/\aG wr (w.heap.size+1) 174 #[.int .i64 0,.int .i64 0]/\aG wr (w.heap.size+2) 29 VC.zero.arr/\aG wr (w.heap.size+3) 29 VC.zero.arr/\Below w.heap.size w wr/\gU 6 v.k v.ln=false)
theorem xZ(v:VC)(k0 n0 k1 n1:Int)(w:World)(hsel:Gn 244 w v k0 n0 k1 n1):
 Calls prog 206 #[v.val] w fun e w'=>e=.returned (pZ k0 n0 k1 n1)/\Below w.heap.size w w':=by
 obtain⟨k,n,t,LA,ln,lc,DA,dn,dc⟩:=v;go_enter func206,ntmps206;go_upto_region 2 with fail
 go_cut [15] (fun s15 wx=>s15=.bool (gU 6 k ln)/\wx=(((w.alloc (.cells (VC.arr ⟨k,n,t,LA,ln,lc,DA,dn,dc⟩) 29)).alloc (.cells #[.int .i64 0,.int .i64 0] 174)).alloc (.cells VC.zero.arr 29)).alloc (.cells VC.zero.arr 29))
 case first=>
  cases e6:(k==6)
  all_goals (go_wp2_with fail;go_meet;refine⟨congrArg Value.bool ?_,rfl⟩)
  all_goals (simp[gU,e6])
 case rest=>
 obtain⟨rfl,rfl⟩:=hcut
 go_upto_if 15 with fail
 go_cut [] (fun wx=>Gp w ⟨k,n,t,LA,ln,lc,DA,dn,dc⟩ k0 n0 k1 n1 wx)
 case first=>
  cases hsel with
  | list a0 a1 b off hk hA hl h0 h1 e=>
   simp only at hk hA hl;obtain⟨rfl,rfl,rfl,rfl⟩:=e;subst hk hA hl;have hb:=h0.lt;have hbk:b<w.heap.size+1/\b<w.heap.size+2/\b<w.heap.size+3:=by omega
   obtain⟨p0,p1,p2,p3,p4⟩:=h0;obtain⟨q0,q1,q2,q3,q4⟩:=h1;have ht:gU 6 6 2=true:=by decide
   rw[ht];go_upto_region 3 with fail
   go_region
   go_wp2_with fail;go_meet;exact .inl ⟨(by show(6:Int)≠5;decide),a0,a1,rfl,rfl,rfl,rfl,(((aG.Ii (by simp)).alloc _).alloc _).alloc _,((aG.Ii (by simp)).alloc _).alloc _,(aG.Ii (by simp)).alloc _,aG.Ii (by simp),(((((Ju _ _).alloc (by simp) _).alloc (by simp) _).alloc (by simp;omega) _).alloc (by simp;omega) _).drew⟩
  | doc hk hd hx hy=>
   simp only at hk hd;subst hk hd;clear hx hy;have ht:gU 6 5 ln=false:=by simp[gU]
   rw[ht];go_wp2_with fail;go_meet;exact .inr ⟨(((aG.Ii (by simp)).alloc _).alloc _).alloc _,((aG.Ii (by simp)).alloc _).alloc _,(aG.Ii (by simp)).alloc _,aG.Ii (by simp),(((((Ju _ _).alloc (by simp) _).alloc (by simp) _).alloc (by simp;omega) _).alloc (by simp;omega) _),ht⟩
  | none_ h6 h5 e=>
   simp only at h6 h5;have ht:gU 6 k ln=false:=uy h6;rw[ht];clear h6 h5;have HT:=qD ht;clear ht;go_wp2_with fail;go_meet;exact .inr ⟨(((aG.Ii (by simp)).alloc _).alloc _).alloc _,((aG.Ii (by simp)).alloc _).alloc _,(aG.Ii (by simp)).alloc _,aG.Ii (by simp),(((((Ju _ _).alloc (by simp) _).alloc (by simp) _).alloc (by simp;omega) _).alloc (by simp;omega) _),HT.out⟩
 case rest=>
 go_upto_region 4 with fail
 go_cut [32] (fun s32 wx=>s32=.bool (gU 5 k dn)/\Gp w ⟨k,n,t,LA,ln,lc,DA,dn,dc⟩ k0 n0 k1 n1 wx)
 case first=>
  have b0:aG wc w.heap.size 29 (VC.arr ⟨k,n,t,LA,ln,lc,DA,dn,dc⟩):=by
   rcases hcut with⟨_,x,y,_,_,_,_,h,_⟩|⟨h,_⟩<;>exact h
  have e0:=b0.cell 0;have e4:=b0.cell 4;simp at e0 e4;have HC:=qD hcut;clear hcut b0;cases e5:(k==5)
  all_goals (go_wp2_with fail;go_meet;refine⟨congrArg Value.bool ?_,HC.out⟩)
  all_goals (simp[gU,e5])
 case rest=>
 obtain⟨rfl,hm⟩:=hcut
 go_upto_if 32 with fail
 go_cut [] (fun wx=>Hy w k0 n0 k1 n1 wx)
 case first=>
  cases hsel with
  | list a0 a1 b off hk hA hl h0 h1 e=>
   simp only at hk hA hl;subst hk;have ht:gU 5 6 dn=false:=by simp[gU]
   rw[ht];have HM:=qD hm;clear hm h0 h1;go_wp2_with fail;go_meet;rcases HM.out with⟨_,x,y,h1,h2,h3,h4,_,h5,h6,h7,h8⟩|⟨_,h5,h6,h7,h8,h9⟩
   ·exact⟨x,y,h1,h2,h3,h4,h5,h6,h7,h8⟩
   ·subst hl;exact absurd h9 (by simp[gU])
  | doc hk hd hx hy=>
   simp only at hk hd;subst hk hd;have ht:gU 5 5 2=true:=by decide
   rw[ht];have HX:=qD hx;have HY:=qD hy;clear hx hy ht;rcases hm with⟨hne,_⟩|⟨N0,N1,N2,N3,N4,_⟩
   ·exact absurd rfl hne
   obtain⟨a0,a1,a2,a3,a4⟩:=aS.Ig N0;obtain⟨b0,b1,b2,b3,b4⟩:=aS.Ig N2;have z:=N2.frozen;have J0:=qD N0;have J1:=qD N1;have J2:=qD N2;have J3:=qD N3;have J4:=qD N4;clear N0 N1 N2 N3 N4;go_wp2_with fail;refine(HX.out _ J4.out).mono ?_;rintro e w1 ⟨x,ok,rfl,rfl,rfl,hb⟩;obtain⟨xk,xn,xt,xLA,xln,xlc,xDA,xdn,xdc⟩:=x;have N0:=J0.out.step hb;have N1:=J1.out.step hb;have N2:=J2.out.step hb;have N3:=J3.out.step hb;have N4:=J4.out.Ih hb;clear a0 a1 a2 a3 a4 b0 b1 b2 b3 b4 z hb J0 J1 J2 J3 J4 HX;obtain⟨a0,a1,a2,a3,a4⟩:=aS.Ig N0;obtain⟨b0,b1,b2,b3,b4⟩:=aS.Ig N2;have z:=N2.frozen;have J1:=qD N1;have J2:=qD N2;have J3:=qD N3;have J4:=qD N4;clear N0 N1 N2 N3 N4;go_wp2_with fail;refine(HY.out _ (af J4.out (b:=w.heap.size+2) (by omega) 0 ⟨xk,xn,xt,xLA,xln,xlc,xDA,xdn,xdc⟩)).mono ?_;rintro e w2 ⟨y,ok2,rfl,rfl,rfl,hb⟩;obtain⟨yk,yn,yt,yLA,yln,ylc,yDA,ydn,ydc⟩:=y;have N1:=(J1.out.Ix (b:=w.heap.size+2) (by omega) 0 ⟨xk,xn,xt,xLA,xln,xlc,xDA,xdn,xdc⟩).step hb;have N2:=(J2.out.putV ⟨xk,xn,xt,xLA,xln,xlc,xDA,xdn,xdc⟩).step hb;have N3:=(J3.out.Ix (b:=w.heap.size+2) (by omega) 0 ⟨xk,xn,xt,xLA,xln,xlc,xDA,xdn,xdc⟩).step hb;have N4:=(af J4.out (b:=w.heap.size+2) (by omega) 0 ⟨xk,xn,xt,xLA,xln,xlc,xDA,xdn,xdc⟩).Ih hb;clear a0 a1 a2 a3 a4 b0 b1 b2 b3 b4 z hb J1 J2 J3 J4;obtain⟨b0,b1,b2,b3,b4⟩:=aS.Ig N3;have z:=N3.frozen;have J1:=qD N1;have J2:=qD N2;have J3:=qD N3;have J4:=qD N4;clear N1 N2 N3 N4;go_wp2_with fail;go_meet
   exact⟨⟨xk,xn,xt,xLA,xln,xlc,xDA,xdn,xdc⟩,⟨yk,yn,yt,yLA,yln,ylc,yDA,ydn,ydc⟩,rfl,rfl,rfl,rfl,J1.out.Ix (b:=w.heap.size+3) (by omega) 0 ⟨yk,yn,yt,yLA,yln,ylc,yDA,ydn,ydc⟩,J2.out.Ix (b:=w.heap.size+3) (by omega) 0 ⟨yk,yn,yt,yLA,yln,ylc,yDA,ydn,ydc⟩,J3.out.putV ⟨yk,yn,yt,yLA,yln,ylc,yDA,ydn,ydc⟩,af J4.out (b:=w.heap.size+3) (by omega) 0 ⟨yk,yn,yt,yLA,yln,ylc,yDA,ydn,ydc⟩⟩
  | none_ h6 h5 e=>
   simp only at h6 h5;obtain⟨rfl,rfl,rfl,rfl⟩:=e;have ht:gU 5 k dn=false:=uy h5;rw[ht];have HM:=qD hm;clear hm h6 h5 ht;go_wp2_with fail;go_meet;rcases HM.out with⟨_,x,y,h1,h2,h3,h4,_,h5,h6,h7,h8⟩|⟨_,h5,h6,h7,h8,_⟩
   ·exact⟨x,y,h1,h2,h3,h4,h5,h6,h7,h8⟩
   ·exact⟨VC.zero,VC.zero,rfl,rfl,rfl,rfl,h5,h6,h7,h8⟩
 case rest=>
  obtain⟨x,y,rfl,rfl,rfl,rfl,N1,N2,N3,N4⟩:=hcut;clear hsel;obtain⟨xk,xn,xt,xLA,xln,xlc,xDA,xdn,xdc⟩:=x;obtain⟨yk,yn,yt,yLA,yln,ylc,yDA,ydn,ydc⟩:=y;obtain⟨a0,a1,-,-,-⟩:=aS.Ig N2;obtain⟨b0,b1,-,-,-⟩:=aS.Ig N3;have l1:=N1.lt;have l2:=N2.lt;have l3:=N3.lt;have e0:=N1.cell 0;have e1:=N1.cell 1;have z:=N1.frozen;simp at a0 a1 b0 b1 e0 e1;have J1:=qD N1;have J4:=qD N4;clear N1 N2 N3 N4;cases hp:EO xk xn yk yn
  ·have HR:Hid (pZ xk xn yk yn=.tuple #[pt 0 0,.int .i64 18]):=by simp[pZ,hp,Hid]
   cases ex:(xk != 3)
   ·cases ey:(yk != 3)
    ·have hq:bi xn yn=false:=by
      simp at ex ey;simpa[EO,ex,ey] using hp
     clear hp;go_wp2_with fail;refine(ft _ _ _).mono ?_;rintro e w1 ⟨rfl,hb⟩;have N1:=(J1.out.alloc _).step hb;have N4:=(J4.out.alloc J4.out.size _).Ih hb;clear a0 a1 b0 b1 e0 e1 z l1 l2 l3 hb;have e0:=N1.cell 0;have e1:=N1.cell 1;have z:=N1.frozen;simp at e0 e1;have J2:=qD N1;have J5:=qD N4;clear N1 N4;go_wp2_with fail;have q:=((J2.out.Ij 0 (.int .i64 0)).Ij 1 (.int .i64 0));have q0:=q.cell 0;have q1:=q.cell 1;refine Jz (fM rfl _ _ rfl _ rfl _ _ _ q0 q1) rfl ⟨by rw[HR.out];rfl,(J5.out.setCell (by show w.heap.size<=w.heap.size+1;omega) _).setCell (by show w.heap.size<=w.heap.size+1;omega) _⟩
    ·clear hp;go_wp2_with fail;have q:=((J1.out.Ij 0 (.int .i64 0)).Ij 1 (.int .i64 0)).alloc (.cells #[Value.int IntKind.i64 xn,Value.int IntKind.i64 yn] 174);have q0:=q.cell 0;have q1:=q.cell 1;refine Jz (fM rfl _ _ rfl _ rfl _ _ _ q0 q1) rfl ⟨by rw[HR.out];rfl,((J4.out.setCell (p:=⟨w.heap.size+1,0,none⟩) (by show w.heap.size<=w.heap.size+1;omega) _).setCell (p:=⟨w.heap.size+1,1,none⟩) (by show w.heap.size<=w.heap.size+1;omega) _).alloc (by have:=J4.out.size;simp[World.setCell];omega) _⟩
   ·clear hp;go_wp2_with fail;have q:=((J1.out.Ij 0 (.int .i64 0)).Ij 1 (.int .i64 0)).alloc (.cells #[Value.int IntKind.i64 xn,Value.int IntKind.i64 yn] 174);have q0:=q.cell 0;have q1:=q.cell 1;refine Jz (fM rfl _ _ rfl _ rfl _ _ _ q0 q1) rfl ⟨by rw[HR.out];rfl,((J4.out.setCell (p:=⟨w.heap.size+1,0,none⟩) (by show w.heap.size<=w.heap.size+1;omega) _).setCell (p:=⟨w.heap.size+1,1,none⟩) (by show w.heap.size<=w.heap.size+1;omega) _).alloc (by have:=J4.out.size;simp[World.setCell];omega) _⟩
  ·have HR:Hid (pZ xk xn yk yn=.tuple #[pt xn yn,.int .i64 0]):=by simp[pZ,hp,Hid]
   have hq:xk=3/\yk=3/\bi xn yn=true:=by
    simp only[EO] at hp;split at hp
    ·split at hp<;>simp_all
    ·simp at hp
   obtain⟨rfl,rfl,hq⟩:=hq;clear hp;go_wp2_with fail;refine(ft _ _ _).mono ?_;rintro e w1 ⟨rfl,hb⟩;have N1:=(J1.out.alloc _).step hb;have N2:=(aG.new wc 174 #[.int .i64 xn,.int .i64 yn]).step hb;have N4:=(J4.out.alloc J4.out.size _).Ih hb;clear a0 a1 b0 b1 e0 e1 z l1 l2 l3 hb;have e0:=N1.cell 0;have e1:=N1.cell 1;have e2:=N2.cell 0;have e3:=N2.cell 1;have z:=N1.frozen;simp at e0 e1 e2 e3;have J2:=qD N1;have J5:=qD N4;clear N1 N2 N4;go_wp2_with fail;have q:=((J2.out.Ij 0 (.int .i64 xn)).Ij 1 (.int .i64 yn));have q0:=q.cell 0;have q1:=q.cell 1;refine Jz (fM rfl _ _ rfl _ rfl _ _ _ q0 q1) rfl ⟨by rw[HR.out];rfl,(J5.out.setCell (by show w.heap.size<=w.heap.size+1;omega) _).setCell (by show w.heap.size<=w.heap.size+1;omega) _⟩
def yu(ps:List (Int×Int)):Int×Int:=ps.headD (0,0)
theorem Ch{ps:List (Int×Int)}{p:Int×Int}(h:ps[0]?=some p):yu ps=p:=by
 cases ps with
 | nil=>simp at h
 | cons a l=>simpa[yu] using h
theorem oD{k:Int}{ps:List (Int×Int)}{r:Int}(h:dt k ps r=true):iO k ps.length r=true/\∀p∈ps,bi p.1 p.2=true:=by
 simpa[dt] using h
theorem oE{k n r:Int}(h:iO k n r=true):(k=1/\n=2/\r=0)\/(k=2/\n=1/\0<=r/\r<65536)\/(k=3/\3<=n/\n<=64/\r=0):=by
 simp only[iO] at h;split at h
 ·split at h<;>simp_all
 ·split at h
  ·split at h
   ·have:=iN h;simp_all
   ·simp at h
  ·split at h
   ·split at h
    ·split at h<;>simp_all
    ·simp at h
   ·simp at h
theorem xa{x:aC}{c:VC}{w:World}(h:RW w c x)(name:ByteArray):mh 244 w c name ((eY x name).getD aC.zero).k ((eY x name).getD aC.zero).n:=by
 intro W hW;refine(CD x c name W (h.lt.Ih hW)).mono ?_;rintro e w' ⟨c',rfl,hr,hb⟩;exact⟨c',_,hr.open.k,hr.open.n,rfl,hb⟩
def jQ(x:aC):Int×Int×Int×Int:=
 if x.k=6/\x.l.length=2 then((x.l.getD 0 aC.zero).k,(x.l.getD 0 aC.zero).n,(x.l.getD 1 aC.zero).k,(x.l.getD 1 aC.zero).n)
 else if x.k=5/\x.d.length=2 then(((eY x sx).getD aC.zero).k,((eY x sx).getD aC.zero).n,((eY x sy).getD aC.zero).k,((eY x sy).getD aC.zero).n)
 else(0,0,0,0)
theorem Ci{g:FuncId}{x:aC}{c:VC}{w:World}(h:RW w c x)(hg:∀name,mh g w c name ((eY x name).getD aC.zero).k ((eY x name).getD aC.zero).n):
 Gn g w c (jQ x).1 (jQ x).2.1 (jQ x).2.2.1 (jQ x).2.2.2:=by
 have ho:=h.open;unfold jQ;split
 ·rename_i h6
  have hn:c.ln=2:=by rw[ho.ln];exact h6.2
  obtain⟨b,off,hLA,_,hel⟩:=ho.la (by omega);obtain⟨x0,hx0⟩:∃y,x.l[0]?=some y:=⟨_,Jv (by omega)⟩;obtain⟨x1,hx1⟩:∃y,x.l[1]?=some y:=⟨_,Jv (by omega)⟩;obtain⟨e0,h0,r0⟩:=hel 0 x0 hx0;obtain⟨e1,h1,r1⟩:=hel 1 x1 hx1;refine .list e0 e1 b off (by rw[ho.k];exact h6.1) hLA hn (by simpa using h0) (by simpa using h1) ?_;simp only[OE,hx0,hx1,Option.getD_some];exact⟨r0.open.k.symm,r0.open.n.symm,r1.open.k.symm,r1.open.n.symm⟩
 ·rename_i h6
  split
  ·rename_i h5
   exact .doc (by rw[ho.k];exact h5.1) (by rw[ho.dn];exact h5.2) (hg sx) (hg sy)
  ·rename_i h5
   refine .none_ (fun hk hl=>h6 ⟨by rw[<-ho.k];exact hk,by rw[<-ho.ln];exact hl⟩) (fun hk hl=>h5 ⟨by rw[<-ho.k];exact hk,by rw[<-ho.dn];exact hl⟩) ⟨rfl,rfl,rfl,rfl⟩
theorem uz(k0 n0 k1 n1:Int):∃a b e:Int,pZ k0 n0 k1 n1=.tuple #[pt a b,.int .i64 e]:=by
 unfold pZ;split
 ·exact⟨_,_,_,rfl⟩
 ·exact⟨_,_,_,rfl⟩
theorem xb(k:Int)(ps:List (Int×Int))(r:Int)(h:64<ps.length):dt k ps r=false:=by
 cases hv:dt k ps r
 ·rfl
 ·rcases oE (oD hv).1 with h|h|h<;>omega
theorem valid_at'(k:Int)(ps:List (Int×Int))(r:Int)(i:Nat)(x y:Int)(hi:ps[i]?=some (x,y))(hp:bi x y=false):dt k ps r=false:=by
 cases hf:iO k ps.length r
 ·exact pY k ps r hf
 ·exact Cg k ps r hf i x y hi hp
theorem AO(k:Int)(ps:List (Int×Int))(r:Int)(hp:∀(i:Nat) x y,ps[i]?=some (x,y)->bi x y=true):dt k ps r=iO k ps.length r:=by
 cases hf:iO k ps.length r
 ·exact pY k ps r hf
 ·exact AN k ps r hf hp
theorem kV(k:Int)(A:Option Addr)(n c:Nat)(r:Int)(ps:List (Int×Int))(w:World)(h:kU w A n ps):
 Calls prog 83 #[Gm k A n c r] w fun e w'=>e=.returned (.int .i64 (oC (dt k ps r)))/\Below w.heap.size w w':=by
 have hn:=h.2.1;unfold maxLen at hn;by_cases h64:64<n
 ·have HV:=qD (xb k ps r (by rw[h.1];exact h64));clear h;go_enter func83,ntmps83;go_wp2_with fail;go_ret;exact⟨by rw[HV.out];rfl,(Ju _ _).alloc (qL) _⟩
 ·have HL:=qD h;clear h;go_enter func83,ntmps83;go_wp2_with fail
  go_loopw [2,4] (fun v2 v4 wr=>∃i:Nat,i<=n/\v2=.int .i64 0/\v4=.int .i64 i/\(∀(j:Nat) x y,j<i->ps[j]?=some (x,y)->bi x y=true)/\aG wr w.heap.size 32 #[Value.int IntKind.i64 k,Value.slice A n c,Value.int IntKind.i64 r]/\Below w.heap.size w wr) (fun _ v4 _=>n-(intOf v4).toNat)
  ·exact⟨0,KD _,rfl,rfl,fun j _ _ h=>by omega,aG.Ii rfl,(Ju _ _).alloc (qL) _⟩
  case round=>
   obtain⟨i,hi,rfl,rfl,hall,N1,N2⟩:=hrel;have e0:=N1.cell 0;have e1:=N1.cell 1;have e2:=N1.cell 2;simp at e0 e1 e2;by_cases hlt:i<n
   ·obtain⟨hl,_,hr⟩:=HL.out;obtain⟨b,off,rfl,hb,hc⟩:=hr (by omega);obtain⟨⟨x,y⟩,hxy⟩:∃p,ps[i]?=some p:=⟨_,Jv (by omega)⟩;obtain⟨c0,c1⟩:=hc i x y hxy;have d0:=(N2.cell (p:=⟨b,off+i*2,none⟩) hb).trans c0;have d1:=(N2.cell (p:=⟨b,off+i*2+1,none⟩) hb).trans c1;have HX:=qD hxy;have HA:=qD hall;have J1:=qD N1;have J2:=qD N2;clear hl hr hc c0 c1 hxy hall N1 N2;go_wp2_with fail;refine(ft _ _ _).mono ?_;rintro e w1 ⟨rfl,hb1⟩;have K1:=qD (J1.out.step hb1);have K2:=qD (J2.out.Ih hb1);clear hb1 J1 J2 e0 e1 e2 d0 d1;cases hp:bi x y
    ·have HV:=qD (valid_at' k ps r i x y HX.out hp);go_wp2_with fail;go_ret;exact⟨by rw[HV.out];rfl,K2.out⟩
    ·have HP:=qD hp;go_wp2_with fail;go_roundw
     case rel=>
      refine⟨i+1,by omega,rfl,by go_num,fun j x' y' hj hjx=>?_,K1.out,K2.out⟩;by_cases e:j=i
      ·subst e;have:=HX.out.symm.trans hjx;simp at this;obtain⟨rfl,rfl⟩:=this;exact HP.out
      ·exact HA.out j x' y' (by omega) hjx
     case measure=>simp[intOf];omega
   ·obtain rfl:i=n:=by omega
    have HV:=qD (AO k ps r (fun j x y hj=>hall j x y (by
     have:=(KF.1 hj).1
     have:=HL.out.1
     omega) hj))
    have HN:=qD HL.out.1;have J2:=qD N2;clear hall N1 N2 HL;go_wp2_with (go_at_call 140;refine(tD _ _).mono ?_;rintro e w' ⟨rfl,rfl⟩)
    all_goals go_ret
    all_goals refine⟨Cf ?_,J2.out⟩
    all_goals (have hv:=HV.out;rw[HN.out] at hv;clear HV HN J2;first|(simp[hv,iO,oC, *];done)|(simp[hv,iO,oC, *];omega)|(simp_all[iO,oC];done)|(simp_all[iO,oC];omega))
abbrev EP:=(Int×Int)×(Int×Int)
def Gq(px py:Int)(e:EP):Bool:=pX e.1.1 e.1.2 e.2.1 e.2.2 px py
def Fm(px py:Int)(e:EP):Bool:=nT e.1.1 e.1.2 e.2.1 e.2.2 px py
def mi(px py:Int):Bool->List EP->Bool
 | odd,[]=>odd
 | odd,e::r=>if Gq px py e then true else mi px py (if Fm px py e then !odd else odd) r
def gQ(ps:List (Int×Int)):List EP:=(List.range ps.length).map fun i=>(ps.getD i (0,0),ps.getD ((i+1)%ps.length) (0,0))
theorem xc(ax ay bx by' px py:Int):gI bx by' ax ay px py=- gI ax ay bx by' px py:=by
 simp only[gI];grind
theorem xd(ax ay bx by' px py:Int):nT ax ay bx by' px py=true↔(ay<=py/\py<by'/\0<gI ax ay bx by' px py)\/(by'<=py/\py<ay/\gI ax ay bx by' px py<0):=by
 simp only[nT];by_cases h1:py<ay<;>by_cases h2:py<by'<;>simp[h1,h2]
 ·omega
 ·have h3:by'<ay:=by omega
  rw[Kb h3,xc];simp;omega
 ·have h3:¬by'<ay:=by omega
  rw[KU h3];simp;omega
theorem AP(ps:List (Int×Int))(i:Nat)(a b:Int×Int)(h1:ps[i]?=some a)(h2:ps[(i+1)%ps.length]?=some b):(gQ ps)[i]?=some (a,b):=by
 have hi:=(KF.1 h1).1;simp[gQ,MM hi,h1,h2]
theorem qZ(ps:List (Int×Int)):(gQ ps).length=ps.length:=by simp[gQ]
theorem vA(ax ay bx by' px py:Int):pX ax ay bx by' px py=(gI ax ay bx by' px py==0&&(eL px ax bx&&eL py ay by')):=by
 simp only[pX,eL,Bool.and_assoc]
theorem EQ{ax ay bx by' x y:Int}(h:pX ax ay bx by' x y=false):(gI ax ay bx by' x y==0)=false\/((gI ax ay bx by' x y==0)=true/\(eL x ax bx=false\/(eL x ax bx=true/\eL y ay by'=false))):=by
 rw[vA] at h;cases h1:(gI ax ay bx by' x y==0)<;>cases h2:eL x ax bx<;>cases h3:eL y ay by'<;>simp_all
theorem Cj{ax ay bx by' x y:Int}(h:pX ax ay bx by' x y=true):(gI ax ay bx by' x y==0)=true/\eL x ax bx=true/\eL y ay by'=true:=by
 rw[vA] at h;simpa[Kz] using h
end
structure vB(w:World)(x y:Int)(wr:World):Prop where
 b0:aG wr w.heap.size 174 #[.int .i64 x,.int .i64 y]
 bel:Below w.heap.size w wr
section
variable {r:List ByteArray} {b c k n m size:Nat} {a x y:Int} {w w' wr:World} {A:Option Addr} {e:TypeId} {P:Program} {v:Value}
theorem vB.step{w wr w':World}{x y:Int}(h:vB w x y wr)(hb:Below wr.heap.size wr w'):vB w x y w':=⟨h.b0.step hb,h.bel.Ih hb⟩
theorem vC(A:Option Addr)(n c:Nat)(ps:List (Int×Int))(x y:Int)(w:World)(h:kU w A n ps)(hn1:1<=n)(hn2:n<=64)(hps:∀p∈ps,bi p.1 p.2=true)(hp:bi x y=true):
 Calls prog 252 #[.slice A n c,pt x y] w fun e w'=>e=.returned (.bool (mi x y false (gQ ps)))/\Below w.heap.size w w':=by
 obtain⟨hl,_,hr⟩:=h;obtain⟨b,off,rfl,hb,hc⟩:=hr (by omega);have HC:=qD hc;have HPS:=qD hps;have HL:=qD hl;clear hr hc hps hl;go_enter func252,ntmps252;go_wp2_with fail
 go_loopw [4,5,6,7,8,9] (fun v4 v5 v6 v7 v8 v9 wr=>∃(i:Nat) (odd:Bool),i<=n/\v4=.bool false/\v5=.bool odd/\v6=.int .i64 i/\mi x y false (gQ ps)=mi x y odd ((gQ ps).drop i)/\vB w x y wr) (fun _ _ v6 _ _ _ _=>n-(intOf v6).toNat)
 ·exact⟨0,false,KD _,rfl,rfl,rfl,rfl,aG.Ii rfl,(Ju _ _).alloc (qL) _⟩
 case round=>
  obtain⟨i,odd,hi,rfl,rfl,rfl,hpoly,I0⟩:=hrel;have HP:=qD hpoly;clear hpoly;by_cases hlt:i<n
  ·have hm:(i+1)%n<n:=Nat.mod_lt _ (by omega);obtain⟨⟨ax,ay⟩,hA⟩:∃p,ps[i]?=some p:=⟨_,Jv (by have:=HL.out;omega)⟩;obtain⟨⟨bx,by'⟩,hB⟩:∃p,ps[(i+1)%n]?=some p:=⟨_,Jv (by have:=HL.out;omega)⟩;have ha:=HPS.out _ (Jx hA);have hbp:=HPS.out _ (Jx hB);simp only at ha hbp;obtain⟨a0,a1⟩:=HC.out i ax ay hA;obtain⟨b0,b1⟩:=HC.out _ bx by' hB
   have d0:=(I0.bel.cell (p:=⟨b,off+i*2,none⟩) hb).trans a0;have d1:=(I0.bel.cell (p:=⟨b,off+i*2+1,none⟩) hb).trans a1;have d2:=(I0.bel.cell (p:=⟨b,off+(i+1)%n*2,none⟩) hb).trans b0;have d3:=(I0.bel.cell (p:=⟨b,off+(i+1)%n*2+1,none⟩) hb).trans b1
   have HQ:Hid (mi x y false (gQ ps)=if pX ax ay bx by' x y then true else mi x y (if nT ax ay bx by' x y then !odd else odd) ((gQ ps).drop (i+1))):=by
    rw[Hid,HP.out,dX (AP ps i (ax,ay) (bx,by') hA (by rw[HL.out];exact hB))];rfl
   have k3:b<wr.heap.size/\b<wr.heap.size+1:=by have:=I0.bel.size;omega
   have m1:(0:Int)<=((i:Int)+1)%(n:Int):=Int.emod_nonneg _ (by omega);have m2:((i:Int)+1)%(n:Int)<n:=Int.emod_lt_of_pos _ (by omega);have J0:=qD I0;clear a0 a1 b0 b1 hA hB HP I0;go_upto_region 5 with fail
   go_cut [7,8] (fun s7 s8 wx=>∃g1 g2:Nat,s7=.pointer (some ⟨g1,0,none⟩)/\s8=.pointer (some ⟨g2,0,none⟩)/\aG wx g1 174 #[.int .i64 ax,.int .i64 ay]/\aG wx g2 174 #[.int .i64 bx,.int .i64 by']/\vB w x y wx)
   case first=>
    go_region
    all_goals (go_wp2_with fail;go_meet)
    all_goals first
     | exact⟨wr.heap.size,wr.heap.size+1,rfl,rfl,(aG.Ii rfl).alloc _,aG.Ii (by simp),(J0.out.b0.alloc _).alloc _,((J0.out.bel.alloc J0.out.bel.size _).alloc (by have:=J0.out.bel.size;simp;omega) _).drew⟩
     | exact⟨wr.heap.size+1,wr.heap.size,rfl,rfl,aG.Ii (by simp),(aG.Ii rfl).alloc _,(J0.out.b0.alloc _).alloc _,((J0.out.bel.alloc J0.out.bel.size _).alloc (by have:=J0.out.bel.size;simp;omega) _).drew⟩
   case rest=>
    obtain⟨g1,g2,rfl,rfl,B1,B2,I0⟩:=hcut;clear d0 d1 d2 d3 m1 m2 k3 J0;have e0:=I0.b0.cell 0;have e1:=I0.b0.cell 1;have e2:=B1.cell 0;have e3:=B1.cell 1;have e4:=B2.cell 0;have e5:=B2.cell 1;simp at e0 e1 e2 e3 e4 e5;have J0:=qD I0;have J1:=qD B1;have J2:=qD B2;clear I0 B1 B2;go_wp2_with fail;refine(xY _ _ _ _ _ _ _ ha hbp hp).mono ?_;rintro e w2 ⟨rfl,hb2⟩;have I0:=J0.out.step hb2;have B1:=J1.out.step hb2;have B2:=J2.out.step hb2;clear hb2 e0 e1 e2 e3 e4 e5 J0 J1 J2;have e0:=I0.b0.cell 0;have e1:=I0.b0.cell 1;have e2:=B1.cell 0;have e3:=B1.cell 1;have e4:=B2.cell 0;have e5:=B2.cell 1;simp at e0 e1 e2 e3 e4 e5;have J0:=qD I0;clear I0 B1 B2;cases he:pX ax ay bx by' x y
    ·have HE:=qD he;simp only[he,Bool.false_eq_true,if_false] at HQ;have hed:(gI ax ay bx by' x y==0)=false\/((gI ax ay bx by' x y==0)=true/\(eL x ax bx=false\/(eL x ax bx=true/\eL y ay by'=false))):=EQ he;clear he;go_upto_region 7 with fail
     go_cut [51] (fun s51 wx=>s51=.bool false/\w2=wx)
     case first=>
      rcases hed with h1|⟨h1,h2|⟨h2,h3⟩⟩
      all_goals
       go_wp2_with (go_at_call 250;refine(gJ _ _ _ _).mono ?_;rintro e w' ⟨rfl,rfl⟩);go_meet;exact⟨rfl,rfl⟩
     case rest=>
      obtain⟨rfl,rfl⟩:=hcut;clear hed;have HX:=qD (xd ax ay bx by' x y);go_upto_region 9 with fail
      go_cut [85] (fun s85 wx=>s85=.bool (nT ax ay bx by' x y)/\w2=wx)
      case first=>
       go_wp2_with fail
       all_goals (go_meet;refine⟨congrArg Value.bool ?_,rfl⟩)
       all_goals (rw[Kc,HX.out];clear HX e0 e1 e2 e3 e4 e5 HQ HE J0 HC HPS HL;simp[*];try omega)
      case rest=>
       obtain⟨rfl,rfl⟩:=hcut;cases hx:nT ax ay bx by' x y
       all_goals
        simp only[hx,Bool.false_eq_true,if_false,Oh] at HQ;go_wp2_with fail;go_roundw
        ·exact⟨i+1,_,by omega,rfl,rfl,by go_num,HQ.out,J0.out⟩
        ·simp[intOf];omega
    ·have hed:(gI ax ay bx by' x y==0)=true/\eL x ax bx=true/\eL y ay by'=true:=Cj he
     simp only[he,Oh] at HQ;clear he;obtain⟨h1,h2,h3⟩:=hed;go_wp2_with (go_at_call 250;refine(gJ _ _ _ _).mono ?_;rintro e w' ⟨rfl,rfl⟩);go_ret;exact⟨by rw[HQ.out];rfl,J0.out.bel⟩
  ·obtain rfl:i=n:=by omega
   have HQ:Hid (mi x y false (gQ ps)=odd):=by
    rw[Hid,HP.out,Kk (by rw[qZ];have:=HL.out;omega)];rfl
   have J0:=qD I0;clear I0;go_wp2_with fail;go_ret;exact⟨by rw[HQ.out];rfl,J0.out.bel⟩
def dq(k:Int)(ps:List (Int×Int))(r x y:Int):Bool:=
 if k==1 then eL x (ps.getD 0 (0,0)).1 (ps.getD 1 (0,0)).1&&eL y (ps.getD 0 (0,0)).2 (ps.getD 1 (0,0)).2
 else if k==2 then decide (mg (yu ps).1 (yu ps).2 x y<=r*r)
 else mi x y false (gQ ps)
def iw(k:Int)(ps:List (Int×Int))(r x y:Int):Bool:=dt k ps r&&(bi x y&&dq k ps r x y)
theorem pd{n a b:Int}{v:Bool}(h:eL n a b=v)(w:World):
 Calls prog 250 #[.int .i64 n,.int .i64 a,.int .i64 b] w fun e w'=>e=.returned (.bool v)/\w=w':=by
 subst h;exact gJ n a b w
theorem Calls.It{P:Program}{f:FuncId}{args:Array Value}{w:World}{n:Nat}{v:Value}(h:Calls P f args (w.drewN n) fun e w'=>e=.returned v/\w.drewN n=w'):Calls P f args (w.drewN n) fun e w''=>e=.returned v/\∃m,w''=w.drewN m:=
 h.mono fun _ _ ⟨he,hm⟩=>⟨he,n,hm.symm⟩
theorem xf(k:Int)(A:Option Addr)(n c:Nat)(r:Int)(ps:List (Int×Int))(x y:Int)(w:World)(h:kU w A n ps)(hn:(dt k ps r&&bi x y)=false):
 Calls prog 207 #[Gm k A n c r,pt x y] w fun e w'=>e=.returned (.bool (iw k ps r x y))/\Below w.heap.size w w':=by
 have HE:Hid (iw k ps r x y=false):=by simp only[iw,<-Bool.and_assoc,hn,OI,Hid]
 have h2:kU ((w.alloc (.cells #[Value.int IntKind.i64 k,Value.slice A n c,Value.int IntKind.i64 r] 32)).alloc (.cells #[Value.int IntKind.i64 x,Value.int IntKind.i64 y] 174)) A n ps:=
  h.below (((Ju _ _).alloc (qL) _).alloc (by simp) _)
 have H2:=qD h2;clear h2 h;cases hv:dt k ps r
 ·have hv':((oC false) != 0)=true:=by decide
  clear hn;go_enter func207,ntmps207;go_wp2_with fail;refine(kV _ _ _ _ _ _ _ H2.out).mono ?_;rintro e w1 ⟨rfl,hb⟩;go_wp2_with fail;go_ret;exact⟨by rw[HE.out];rfl,(((Ju _ _).alloc (qL) _).alloc (by simp) _).trans (hb.mono (by simp;omega))⟩
 ·have hp:bi x y=false:=by simpa[hv] using hn
  have hv':((oC true) != 0)=false:=by decide
  clear hn;go_enter func207,ntmps207;go_wp2_with fail;refine(kV _ _ _ _ _ _ _ H2.out).mono ?_;rintro e w1 ⟨rfl,hb⟩;obtain⟨hc1,hf1⟩:=tZ hb;go_wp2_with fail;refine(ft _ _ _).mono ?_;rintro e w2 ⟨rfl,hb2⟩;replace hb:=hb.step hb2;go_wp2_with fail;go_ret;exact⟨by rw[HE.out];rfl,(((Ju _ _).alloc (qL) _).alloc (by simp) _).trans (hb.mono (by simp;omega))⟩
theorem vD(k:Int)(A:Option Addr)(n c:Nat)(r:Int)(ps:List (Int×Int))(x y:Int)(w:World)(h:kU w A n ps)(hv:dt k ps r=true)(hp:bi x y=true):
 Calls prog 207 #[Gm k A n c r,pt x y] w fun e w'=>e=.returned (.bool (dq k ps r x y))/\Below w.heap.size w w':=by
 obtain⟨hf,hps⟩:=oD hv;rw[h.1] at hf;have HPS:=qD hps
 have h2:kU ((w.alloc (.cells #[Value.int IntKind.i64 k,Value.slice A n c,Value.int IntKind.i64 r] 32)).alloc (.cells #[Value.int IntKind.i64 x,Value.int IntKind.i64 y] 174)) A n ps:=
  h.below (((Ju _ _).alloc (qL) _).alloc (by simp) _)
 have H2:=qD h2;have HF:=qD hf;have hv':((oC true) != 0)=false:=by decide
 clear h2 h hps hf;go_enter func207,ntmps207;go_wp2_with fail;refine(kV _ _ _ _ _ _ _ H2.out).mono ?_;rintro e w1 ⟨rfl,hb⟩;obtain⟨hc1,hf1⟩:=tZ hb;go_wp2_with fail;refine(ft _ _ _).mono ?_;rintro e w2 ⟨rfl,hb2⟩;replace hb:=hb.step hb2;clear hb2 hc1 hf1 w1;have B1:aG w2 w.heap.size 32 #[Value.int IntKind.i64 k,Value.slice A n c,Value.int IntKind.i64 r]:=((aG.Ii rfl).alloc _).below hb (by simp;omega);have B2:aG w2 (w.heap.size+1) 174 #[Value.int IntKind.i64 x,Value.int IntKind.i64 y]:=(aG.Ii (by simp)).below hb (by simp);have B3:Below w.heap.size w w2:=(((Ju _ _).alloc (qL) _).alloc (by simp) _).trans (hb.mono (by simp;omega));have h3:=(H2.out).below hb;clear hb H2;have e0:=B1.cell 0;have e1:=B1.cell 1;have e2:=B1.cell 2;have f0:=B2.cell 0;have f1:=B2.cell 1;simp at e0 e1 e2 f0 f1;have H3:=qD h3;have J1:=qD B1;have J2:=qD B2;have J3:=qD B3;clear h3 B1 B2 B3;rcases oE HF.out with⟨rfl,h2,rfl⟩|⟨rfl,h2,hr0,hr1⟩|⟨rfl,h2,h3,rfl⟩
 ·
  obtain rfl:n=2:=by omega
  clear h2;obtain⟨⟨x0,y0⟩,hx0⟩:∃p,ps[0]?=some p:=⟨_,Jv (by have:=H3.out.1;omega)⟩;obtain⟨⟨x1,y1⟩,hx1⟩:∃p,ps[1]?=some p:=⟨_,Jv (by have:=H3.out.1;omega)⟩;have HE:Hid (dq 1 ps 0 x y=(eL x x0 x1&&eL y y0 y1)):=by simp[dq,Hid,hx0,hx1]
  obtain⟨b,off,rfl,hb,hc⟩:=H3.out.2.2 (by omega);obtain⟨c0,c1⟩:=hc 0 x0 y0 hx0;obtain⟨c2,c3⟩:=hc 1 x1 y1 hx1;simp at c0 c1 c2 c3;clear hx0 hx1 hc;cases hbx:eL x x0 x1
  ·simp only[hbx,OI] at HE;go_wp2_with fail;refine wp_region_quiet_lit (by kernel_rfl) (by kernel_rfl) ?_
   repeat(go_big_quiet_step (first|(go_at_call 250;with_reducible exact Calls.It (pd hbx _))|(go_at_call 250;exact Calls.It (gJ _ _ _ _))))
   refine Kd ?_;rintro _ ⟨nq,rfl⟩;go_wp2_with fail;go_ret;exact⟨by rw[HE.out];rfl,J3.out.drewN _⟩
  ·simp only[hbx,Mt] at HE;go_wp2_with fail;refine wp_region_quiet_lit (by kernel_rfl) (by kernel_rfl) ?_
   repeat(go_big_quiet_step (first|(go_at_call 250;with_reducible exact Calls.It (pd hbx _))|(go_at_call 250;exact Calls.It (gJ _ _ _ _))))
   refine Kd ?_;rintro _ ⟨nq,rfl⟩;go_wp2_with fail;go_ret;exact⟨by rw[HE.out];rfl,J3.out.drewN _⟩
 ·
  obtain rfl:n=1:=by omega
  clear h2;obtain⟨⟨x0,y0⟩,hx0⟩:∃p,ps[0]?=some p:=⟨_,Jv (by have:=H3.out.1;omega)⟩;have HE:Hid (dq 2 ps r x y=decide (mg x0 y0 x y<=r*r)):=by simp[dq,Hid,Ch hx0]
  obtain⟨b,off,rfl,hb,hc⟩:=H3.out.2.2 (by omega);obtain⟨c0,c1⟩:=hc 0 x0 y0 hx0;simp at c0 c1;have sr:=kT (a:=r) (b:=r) (by omega) (by omega) (by omega) (by omega);clear hx0 hc;go_wp2_with fail;have E1:∀k:BW w2,k.val.cell? ⟨w.heap.size,1,none⟩=some (Value.slice (some ⟨b,off,none⟩) 1 c):=fun k=>k.cell e1;have E2:∀k:BW w2,k.val.cell? ⟨w.heap.size,2,none⟩=some (Value.int IntKind.i64 r):=fun k=>k.cell e2;have F0:∀k:BW w2,k.val.cell? ⟨w.heap.size+1,0,none⟩=some (Value.int IntKind.i64 x):=fun k=>k.cell f0;have F1:∀k:BW w2,k.val.cell? ⟨w.heap.size+1,1,none⟩=some (Value.int IntKind.i64 y):=fun k=>k.cell f1;have C0:∀k:BW w2,k.val.cell? ⟨b,off,none⟩=some (Value.int IntKind.i64 x0):=fun k=>k.cell c0;have C1:∀k:BW w2,k.val.cell? ⟨b,off+1,none⟩=some (Value.int IntKind.i64 y0):=fun k=>k.cell c1;refine aM (by kernel_rfl) (by kernel_rfl) ?_
  repeat(go_big_quiet_step (exact Calls.bw (qY _ _ _ _ _)))
  refine Kd ?_;rintro _ ⟨kw,rfl⟩;clear E1 E2 F0 F1 C0 C1;go_wp2_with fail;go_ret;exact⟨by rw[HE.out];rfl,J3.out.Ih kw.below⟩
 ·
  have HE:Hid (dq 3 ps 0 x y=mi x y false (gQ ps)):=rfl;go_wp2_with fail;refine(vC _ _ _ _ _ _ _ H3.out (by omega) (by omega) HPS.out hp).mono ?_;rintro e w3 ⟨rfl,hb3⟩;go_wp2_with fail;go_ret;exact⟨by rw[HE.out];rfl,J3.out.Ih hb3⟩
theorem vE(k:Int)(A:Option Addr)(n c:Nat)(r:Int)(ps:List (Int×Int))(x y:Int)(w:World)(h:kU w A n ps):
 Calls prog 207 #[Gm k A n c r,pt x y] w fun e w'=>e=.returned (.bool (iw k ps r x y))/\Below w.heap.size w w':=by
 cases hb:(dt k ps r&&bi x y)
 ·exact xf k A n c r ps x y w h hb
 ·have h1:dt k ps r=true/\bi x y=true:=by simpa using hb
  have e:iw k ps r x y=dq k ps r x y:=by simp[iw,h1]
  rw[e];exact vD k A n c r ps x y w h h1.1 h1.2
def Hz(w:World)(e:Ending)(w':World):Prop:=∃a b n:Int,e=.returned (.tuple #[pt a b,.int .i64 n])/\Below w.heap.size w w'
theorem ER(x:aC)(c:VC)(w:World)(h:RW w c x):Calls prog 206 #[c.val] w (Hz w):=by
 obtain⟨a,b,er,hres⟩:=uz (jQ x).1 (jQ x).2.1 (jQ x).2.2.1 (jQ x).2.2.2;refine(xZ c _ _ _ _ _ (Ci h (xa h))).mono ?_;rintro e w1 ⟨rfl,hb⟩;exact⟨a,b,er,by rw[<-hres],hb⟩
theorem Fo{w:World}{A:Option Addr}{n c:Nat}{ps:List (Int×Int)}(h:SR 2 nh w A n c ps)(hn:n<=maxLen):kU w A n ps:=by
 refine⟨h.ln.symm,hn,fun h0=>?_⟩;obtain⟨b,off,e,hb,hc⟩:=h.el h0;exact⟨b,off,e,hb,fun i x y hi=>⟨by simpa using hc i _ hi 0 _ rfl,hc i _ hi 1 _ rfl⟩⟩
theorem xg(k:Int)(A:Option Addr)(n c:Nat)(r:Int)(ps:List (Int×Int))(x y:Int)(w:World)(h:SR 2 nh w A n c ps)(hn:n<=maxLen):
 Calls prog 207 #[Gm k A n c r,pt x y] w (am (fun _=>True) w):=by
 refine(vE k A n c r ps x y w (Fo h hn)).mono ?_;rintro e w1 ⟨rfl,hb⟩;exact am.of trivial hb
end
end Go.Proofs.YtgfoliedmhgpnaaGreatDoor
