/- Parts of the proof, joined: ChRepA, PrRep, ValCmpPure, Kit7, SortOrd, ValSoundPure, ValOrder, IvPure, IvCut, IvAll, PrPure, Kit8, PrSmall, PrAt. -/
import Derived.Test.YtfkdihlbaghajaaGreatDoorOf1
import Derived.Lib.Bytealg
import Derived.Lib.Small
import Derived.Lib.ValidU
import Derived.Deep.MidRow
set_option maxRecDepth 100000
set_option maxHeartbeats 16000000
set_option linter.unusedSimpArgs false
namespace Go.Proofs.YtfkdihlbaghajaaGreatDoor
open Go.RowKit
structure Ch where
 lo:ByteArray
 hi:ByteArray
 sh:Int
 ver:Int
 ju:Bool
def recC(c:Ch):List Value:=[.string c.lo,.string c.hi,.int .i64 c.sh,.int .i64 c.ver,.bool c.ju]
theorem recC_one(c:Ch):∀u∈recC c,u.oneCell'=true:=by
 intro u hu
 simp only[recC,List.mem_cons,List.not_mem_nil,or_false] at hu
 rcases hu with rfl|rfl|rfl|rfl|rfl<;>rfl
def recT(s:ByteArray):List Value:=[.string s]
theorem recT_length(s:ByteArray):(recT s).length=1:=rfl
theorem recT_one(s:ByteArray):∀u∈recT s,u.oneCell'=true:=by
 intro u hu
 simp only[recT,List.mem_cons,List.not_mem_nil,or_false] at hu
 subst hu
 rfl
structure OC where
 A:Option Addr
 n:Nat
 c:Nat
 d:Bool
def recO(o:OC):List Value:=[.slice o.A o.n o.c,.bool o.d]
structure Od where
 p:List ByteArray
 d:Bool
structure ST(w:World)(A:Option Addr)(n c:Nat)(l:List ByteArray):Prop where
 sr:SR 1 recT w A n c l
 sz:n*16≤reach
 el:∀s∈l,s.size≤reach
theorem ST.step{w w':World}{A:Option Addr}{n c:Nat}{l:List ByteArray}(h:ST w A n c l)(hb:Below w.heap.size w w'):ST w' A n c l:=⟨h.sr.step hb,h.sz,h.el⟩
structure OR(w:World)(o:OC)(q:Od):Prop where
 d:o.d=q.d
 st:ST w o.A o.n o.c q.p
structure KO(w:World)(A:Option Addr)(n c:Nat)(os:List OC)(ks:List Od):Prop where
 sr:SR 2 recO w A n c os
 sz:n*32≤reach
 ln:os.length=ks.length
 el:∀(i:Nat) (o:OC) (q:Od),os[i]?=some o→ks[i]?=some q→OR w o q
def KS(w:World)(A:Option Addr)(n c:Nat)(ks:List Od):Prop:=∃os,KO w A n c os ks
theorem KS.ln{w:World}{A:Option Addr}{n c:Nat}{ks:List Od}(h:KS w A n c ks):n=ks.length:=by obtain⟨os,h⟩:=h;rw[h.sr.ln,h.ln]
structure RA where
 KA:Option Addr
 kn:Nat
 kc:Nat
 CA:Option Addr
 cn:Nat
 cc:Nat
theorem SR.at5{w:World}{A:Option Addr}{n c:Nat}{l:List Ch}(h:SR 5 recC w A n c l){i:Nat}(hi:i<n):∃b off x,A=some ⟨b,off,none⟩∧b<w.heap.size∧l[i]?=some x∧
 w.cell? ⟨b,off+i*5,none⟩=some (.string x.lo)∧w.cell? ⟨b,off+i*5+1,none⟩=some (.string x.hi)∧w.cell? ⟨b,off+i*5+2,none⟩=some (.int .i64 x.sh)∧w.cell? ⟨b,off+i*5+3,none⟩=some (.int .i64 x.ver)∧w.cell? ⟨b,off+i*5+4,none⟩=some (.bool x.ju):=by
 obtain⟨b,off,e,hb,hc⟩:=h.el (by omega)
 have hl:i<l.length:=by have:=h.ln;omega
 have h1:=List.getElem?_eq_getElem hl
 exact⟨b,off,l[i],e,hb,h1,hc i _ h1 0 _ rfl,hc i _ h1 1 _ rfl,hc i _ h1 2 _ rfl,hc i _ h1 3 _ rfl,hc i _ h1 4 _ rfl⟩
theorem SR.at2{w:World}{A:Option Addr}{n c:Nat}{l:List OC}(h:SR 2 recO w A n c l){i:Nat}(hi:i<n):∃b off x,A=some ⟨b,off,none⟩∧b<w.heap.size∧l[i]?=some x∧
 w.cell? ⟨b,off+i*2,none⟩=some (.slice x.A x.n x.c)∧w.cell? ⟨b,off+i*2+1,none⟩=some (.bool x.d):=by
 obtain⟨b,off,e,hb,hc⟩:=h.el (by omega)
 have hl:i<l.length:=by have:=h.ln;omega
 have h1:=List.getElem?_eq_getElem hl
 exact⟨b,off,l[i],e,hb,h1,hc i _ h1 0 _ rfl,hc i _ h1 1 _ rfl⟩
theorem SR.at1{w:World}{A:Option Addr}{n c:Nat}{l:List ByteArray}(h:SR 1 recT w A n c l){i:Nat}(hi:i<n):∃b off x,A=some ⟨b,off,none⟩∧b<w.heap.size∧l[i]?=some x∧
 w.cell? ⟨b,off+i,none⟩=some (.string x):=by
 obtain⟨b,off,e,hb,hc⟩:=h.el (by omega)
 have hl:i<l.length:=by have:=h.ln;omega
 have h1:=List.getElem?_eq_getElem hl
 exact⟨b,off,l[i],e,hb,h1,by simpa using hc i _ h1 0 _ rfl⟩
theorem info_string:(Tryz.prog.info? 9).map (fun i=>(i.zero,i.size,i.bytes))=some (some (.string ByteArray.empty),1,16):=by kernel_rfl
theorem SR.reads{α:Type}{rec:α→List Value}{s:Nat}(hs:∀a,(rec a).length=s)(hp:0<s){w:World}{A:Option Addr}{n c:Nat}{xs:List α}(h:SR s rec w A n c xs):Reads w w.heap.size s A n (flat rec xs):=by
 refine⟨by rw[flat_length hs,h.ln],fun hn=>?_⟩
 obtain⟨b,off,e,hb,hel⟩:=h.el hn
 subst e
 refine⟨_,rfl,hb,fun j u hu=>?_⟩
 have hj:=(List.getElem?_eq_some_iff.1 hu).1
 rw[flat_length hs] at hj
 obtain⟨a,v,g1,g2,g3⟩:=flat_at' hs hp xs j hj
 have:=hel (j/s) a g1 (j%s) v g2
 rw[addr_add]
 rw[g3] at hu
 cases hu
 have hdm:=Nat.div_add_mod j s
 rw[Nat.mul_comm] at hdm
 rw[show off+j=off+j/s*s+j%s by omega]
 exact this
theorem flat_one{α:Type}{rec:α→List Value}(h1:∀a,∀u∈rec a,u.oneCell'=true)(xs:List α):∀u∈flat rec xs,u.oneCell'=true:=by
 intro u hu
 obtain⟨p,_,hp⟩:=List.mem_flatMap.1 hu
 exact h1 p u hp
section
variable {α:Type}
def idxFrom(p:α→Bool):List α→Nat→Int
 | [],_=>-1
 | c::r,i=>if p c then(i:Int) else idxFrom p r (i+1)
def idxI(p:α→Bool)(l:List α):Int:=idxFrom p l 0
theorem idxFrom_range(p:α→Bool):∀(l:List α) (k:Nat),(idxFrom p l k=-1∧∀c∈l,p c=false)∨∃(i:Nat) (c:α),idxFrom p l k=(k+i:Nat)∧l[i]?=some c∧p c=true∧∀j,j<i→∀d,l[j]?=some d→p d=false:=by
 intro l
 induction l with
 | nil=>intro k;exact .inl ⟨rfl,fun _ h=>by simp at h⟩
 | cons c r ih=>
  intro k
  cases hc:p c
  ·rw[idxFrom,hc,if_neg (by simp)]
   rcases ih (k+1) with⟨h1,h2⟩|⟨i,d,h1,h2,h3,h4⟩
   ·refine .inl ⟨h1,fun x hx=>?_⟩
    rcases List.mem_cons.1 hx with rfl|hx
    ·exact hc
    ·exact h2 x hx
   ·refine .inr ⟨i+1,d,by rw[h1];omega,by simpa using h2,h3,fun j hj e he=>?_⟩
    cases j with
    | zero=>simp at he;subst he;exact hc
    | succ j=>exact h4 j (by omega) e (by simpa using he)
  ·rw[idxFrom,hc,if_pos rfl]
   exact .inr ⟨0,c,rfl,rfl,hc,fun j hj=>absurd hj (by omega)⟩
theorem idxI_range(p:α→Bool)(l:List α):(idxI p l=-1∧∀c∈l,p c=false)∨∃(i:Nat) (c:α),idxI p l=(i:Nat)∧l[i]?=some c∧p c=true∧∀j,j<i→∀d,l[j]?=some d→p d=false:=by
 rcases idxFrom_range p l 0 with h|⟨i,c,h1,h⟩
 ·exact .inl h
 ·exact .inr ⟨i,c,by rw[idxI,h1,Nat.zero_add],h⟩
end
def pathB(p:List ByteArray):Bool:=decide (1≤p.length)&&decide (p.length≤16)&&p.all nameB
def sameP:List ByteArray→List ByteArray→Bool
 | [],[]=>true
 | a::r,b::s=>(a.toList==b.toList)&&sameP r s
 | _,_=>false
theorem notName_any(s:ByteArray)(w:World):Calls Tryz.prog 290 #[.string s] w fun e w'=>e=.returned (.bool (!nameB s))∧w'=w:=by
 by_cases h1:s.size<1
 ·have HV:Hid (nameB s=false):=by unfold Hid nameB;rw[decide_eq_false (by omega)];rfl
  go_enter Tryz.func290,Tryz.ntmps290
  go_wp2_with fail
  go_ret
  exact⟨by rw[HV.out];rfl,rfl⟩
 by_cases h2:32<s.size
 ·have HV:Hid (nameB s=false):=by unfold Hid nameB;rw[decide_eq_true (by omega),decide_eq_false (by omega)];rfl
  go_enter Tryz.func290,Tryz.ntmps290
  go_wp2_with fail
  go_ret
  exact⟨by rw[HV.out];rfl,rfl⟩
 cases h3:((s[0].toNat:Int)==36)
 rotate_left
 ·have HV:Hid (nameB s=false):=by
   have:s[0].toNat=36:=by simp at h3;omega
   unfold Hid nameB
   rw[decide_eq_true (by omega),decide_eq_true (by omega),head_of s (by omega),this]
   rfl
  go_enter Tryz.func290,Tryz.ntmps290
  go_wp2_with fail
  go_ret
  exact⟨by rw[HV.out];rfl,rfl⟩
 have HA:Hid (nameB s=s.data.toList.all okB):=by
  have:¬s[0].toNat=36:=by simp at h3;omega
  unfold Hid nameB
  rw[decide_eq_true (by omega),decide_eq_true (by omega),head_of s (by omega)]
  simp[this]
 go_enter Tryz.func290,Tryz.ntmps290
 go_wp2_with fail
 go_loopw [19] (fun v wr=>∃i:Nat,i≤s.size∧v=.int .i64 i∧(s.data.toList.take i).all okB=true∧wr=w) (fun v _=>s.size-(intOf v).toNat)
 case atStart=>exact⟨0,Nat.zero_le _,rfl,all_zero,rfl⟩
 case round=>
  obtain⟨i,hi,rfl,ha,rfl⟩:=hrel
  have HL:=qD ha
  clear ha
  by_cases hlt:i<s.size
  ·have hx:=s[i].toNat_lt
   by_cases hb:(s[i].toNat:Int)<33
   ·have HV:Hid (nameB s=false):=by rw[Hid,HA.out];exact all_not hlt (by unfold okB;rw[decide_eq_false (by omega)];rfl)
    go_wp2_with fail
    go_ret
    exact⟨by rw[HV.out];rfl,rfl⟩
   by_cases hc:126<(s[i].toNat:Int)
   ·have HV:Hid (nameB s=false):=by rw[Hid,HA.out];exact all_not hlt (by unfold okB;rw[decide_eq_true (by omega),decide_eq_false (by omega)];rfl)
    go_wp2_with fail
    go_ret
    exact⟨by rw[HV.out];rfl,rfl⟩
   cases hd:((s[i].toNat:Int)==46)
   rotate_left
   ·have HV:Hid (nameB s=false):=by
     have:s[i].toNat=46:=by simp at hd;omega
     rw[Hid,HA.out]
     exact all_not hlt (by unfold okB;rw[this];rfl)
    go_wp2_with fail
    go_ret
    exact⟨by rw[HV.out];rfl,rfl⟩
   have HN:Hid ((s.data.toList.take (i+1)).all okB=true):=by
    have:¬s[i].toNat=46:=by simp at hd;omega
    exact all_next hlt HL.out (by unfold okB;rw[decide_eq_true (by omega),decide_eq_true (by omega)];simp[this])
   go_wp2_with fail
   go_roundw
   case rel=>exact⟨i+1,by omega,by go_num,HN.out,trivial⟩
   case measure=>simp[intOf];omega
  ·have HV:Hid (nameB s=true):=by rw[Hid,HA.out];exact all_end (by omega) HL.out
   go_wp2_with fail
   go_ret
   exact⟨by rw[HV.out];rfl,rfl⟩
theorem idxFrom_at{α:Type}{p:α→Bool}{l:List α}{i:Nat}{x:α}(h:l[i]?=some x):idxFrom p (l.drop i) i=if p x then(i:Int) else idxFrom p (l.drop (i+1)) (i+1):=by rw[drop_of h,idxFrom]
theorem idxFrom_end{α:Type}{p:α→Bool}{l:List α}{i:Nat}(h:l.length≤i):idxFrom p (l.drop i) i=-1:=by rw[List.drop_of_length_le h,idxFrom]
theorem indexN_any(l:List ByteArray)(A:Option Addr)(n c:Nat)(w:World)(h:ST w A n c l):
 Calls Tryz.prog 302 #[.slice A n c,.func (.func 290) #[] #[]] w fun e w'=>e=.returned (.int .i64 (idxI (fun s=>!nameB s) l))∧w'=w:=by
 have hz:n≤140737488355328:=by have:=h.sz;unfold reach at this;omega
 have H:=qD h
 clear h
 go_enter Tryz.func302,Tryz.ntmps302
 go_wp2_with fail
 go_loopw [8] (fun v wr=>∃i:Nat,i≤n∧v=.int .i64 i∧idxI (fun s=>!nameB s) l=idxFrom (fun s=>!nameB s) (l.drop i) i∧wr=w) (fun v _=>n-(intOf v).toNat)
 case atStart=>exact⟨0,Nat.zero_le _,rfl,rfl,rfl⟩
 case round=>
  obtain⟨i,hi,rfl,ha,rfl⟩:=hrel
  have HA:=qD ha
  clear ha
  by_cases hlt:i<n
  ·obtain⟨b,off,x,hA,hb,hx,e0⟩:=H.out.sr.at1 hlt
   subst hA
   have HX:=qD (idxFrom_at (p:=fun s=>!nameB s) hx)
   clear hx
   go_wp2_with fail
   refine(notName_any x _).mono ?_
   rintro e w1 ⟨rfl,rfl⟩
   cases hq:nameB x
   ·have HF:Hid (idxI (fun s=>!nameB s) l=(i:Int)):=by rw[Hid,HA.out,HX.out,hq];rfl
    go_wp2_with fail
    go_ret
    exact⟨by rw[HF.out];rfl,rfl⟩
   ·have HF:Hid (idxI (fun s=>!nameB s) l=idxFrom (fun s=>!nameB s) (l.drop (i+1)) (i+1)):=by rw[Hid,HA.out,HX.out,hq];rfl
    go_wp2_with fail
    go_roundw
    case rel=>exact⟨i+1,by omega,by go_num,HF.out,trivial⟩
    case measure=>simp[intOf];omega
  ·have HF:Hid (idxI (fun s=>!nameB s) l=-1):=by rw[Hid,HA.out];exact idxFrom_end (by have:=H.out.sr.ln;omega)
   go_wp2_with fail
   go_ret
   exact⟨by rw[HF.out];rfl,rfl⟩
theorem idx_all(p:ByteArray→Bool)(l:List ByteArray):decide (0≤idxI (fun s=>!p s) l)=!l.all p:=by
 rcases idxI_range (fun s=>!p s) l with⟨h1,h2⟩|⟨i,c,h1,h2,h3,_⟩
 ·rw[h1]
  have:l.all p=true:=List.all_eq_true.2 fun x hx=>by simpa using h2 x hx
  rw[this]
  rfl
 ·rw[h1]
  have:l.all p=false:=List.all_eq_false.2 ⟨c,List.mem_of_getElem? h2,by simpa using h3⟩
  rw[this,decide_eq_true (by omega)]
  rfl
theorem containsN_any(l:List ByteArray)(A:Option Addr)(n c:Nat)(w:World)(h:ST w A n c l):
 Calls Tryz.prog 289 #[.slice A n c,.func (.func 290) #[] #[]] w fun e w'=>e=.returned (.bool (!l.all nameB))∧w'=w:=by
 have H:=qD h
 clear h
 have HV:=qD (idx_all nameB l)
 go_enter Tryz.func289,Tryz.ntmps289
 go_wp2_with fail
 refine(indexN_any l _ _ _ _ H.out).mono ?_
 rintro e w1 ⟨rfl,rfl⟩
 go_wp2_with fail
 go_ret
 exact⟨by rw[←HV.out];rfl,rfl⟩
theorem path_any(l:List ByteArray)(A:Option Addr)(n c:Nat)(w:World)(h:ST w A n c l):
 Calls Tryz.prog 272 #[.slice A n c] w fun e w'=>e=.returned (.bool (pathB l))∧w'=w:=by
 have hz:n≤140737488355328:=by have:=h.sz;unfold reach at this;omega
 have H:=qD h
 have hn:=qD h.sr.ln
 clear h
 by_cases h1:1≤n
 ·by_cases h2:n≤16
  ·have HV:Hid (pathB l=l.all nameB):=by unfold Hid pathB;rw[←hn.out,decide_eq_true h1,decide_eq_true h2];rfl
   go_enter Tryz.func272,Tryz.ntmps272
   go_wp2_with fail
   refine(containsN_any l _ _ _ _ H.out).mono ?_
   rintro e w1 ⟨rfl,rfl⟩
   go_wp2_with fail
   go_ret
   exact⟨by rw[HV.out];simp,rfl⟩
  ·have HV:Hid (pathB l=false):=by unfold Hid pathB;rw[←hn.out,decide_eq_true h1,decide_eq_false h2];rfl
   go_enter Tryz.func272,Tryz.ntmps272
   go_wp2_with fail
   go_ret
   exact⟨by rw[HV.out];rfl,rfl⟩
 ·have HV:Hid (pathB l=false):=by unfold Hid pathB;rw[←hn.out,decide_eq_false h1];rfl
  go_enter Tryz.func272,Tryz.ntmps272
  go_wp2_with fail
  go_ret
  exact⟨by rw[HV.out];rfl,rfl⟩
structure Slc(α:Type) where
 A:Option Addr
 n:Nat
 c:Nat
 xs:List α
abbrev Slc.v{α:Type}(s:Slc α):Value:=.slice s.A s.n s.c
def Slc.nil{α:Type}:Slc α:=⟨none,0,0,[]⟩
inductive ExT where
 | mk (op:Int) (path:Slc ByteArray) (name:ByteArray) (names:Slc ByteArray) (arg:PV) (n:Int) (kA:Option Addr) (kn kc:Nat) (kids:List ExT)
def ExT.op:ExT→Int | .mk op _ _ _ _ _ _ _ _ _=>op
def ExT.path:ExT→Slc ByteArray | .mk _ x _ _ _ _ _ _ _ _=>x
def ExT.name:ExT→ByteArray | .mk _ _ x _ _ _ _ _ _ _=>x
def ExT.names:ExT→Slc ByteArray | .mk _ _ _ x _ _ _ _ _ _=>x
def ExT.arg:ExT→PV | .mk _ _ _ _ x _ _ _ _ _=>x
def ExT.n:ExT→Int | .mk _ _ _ _ _ x _ _ _ _=>x
def ExT.kA:ExT→Option Addr | .mk _ _ _ _ _ _ x _ _ _=>x
def ExT.kn:ExT→Nat | .mk _ _ _ _ _ _ _ x _ _=>x
def ExT.kc:ExT→Nat | .mk _ _ _ _ _ _ _ _ x _=>x
def ExT.kids:ExT→List ExT | .mk _ _ _ _ _ _ _ _ _ x=>x
def ExT.zero:ExT:=.mk 0 .nil ByteArray.empty .nil (VC.zero,Val.zero) 0 none 0 0 []
inductive PrT where
 | mk (op:Int) (path:Slc ByteArray) (arg:PV) (args:Slc PV) (n m sk:Int) (pts:Slc (Int×Int)) (sr:Int) (ex:ExT) (kA:Option Addr) (kn kc:Nat) (kids:List PrT)
def PrT.op:PrT→Int | .mk op _ _ _ _ _ _ _ _ _ _ _ _ _=>op
def PrT.path:PrT→Slc ByteArray | .mk _ x _ _ _ _ _ _ _ _ _ _ _ _=>x
def PrT.arg:PrT→PV | .mk _ _ x _ _ _ _ _ _ _ _ _ _ _=>x
def PrT.args:PrT→Slc PV | .mk _ _ _ x _ _ _ _ _ _ _ _ _ _=>x
def PrT.n:PrT→Int | .mk _ _ _ _ x _ _ _ _ _ _ _ _ _=>x
def PrT.m:PrT→Int | .mk _ _ _ _ _ x _ _ _ _ _ _ _ _=>x
def PrT.sk:PrT→Int | .mk _ _ _ _ _ _ x _ _ _ _ _ _ _=>x
def PrT.pts:PrT→Slc (Int×Int) | .mk _ _ _ _ _ _ _ x _ _ _ _ _ _=>x
def PrT.sr:PrT→Int | .mk _ _ _ _ _ _ _ _ x _ _ _ _ _=>x
def PrT.ex:PrT→ExT | .mk _ _ _ _ _ _ _ _ _ x _ _ _ _=>x
def PrT.kA:PrT→Option Addr | .mk _ _ _ _ _ _ _ _ _ _ x _ _ _=>x
def PrT.kn:PrT→Nat | .mk _ _ _ _ _ _ _ _ _ _ _ x _ _=>x
def PrT.kc:PrT→Nat | .mk _ _ _ _ _ _ _ _ _ _ _ _ x _=>x
def PrT.kids:PrT→List PrT | .mk _ _ _ _ _ _ _ _ _ _ _ _ _ x=>x
theorem ExT.ind{p:ExT→Prop}(h:∀x:ExT,(∀k∈x.kids,p k)→p x):∀x,p x:=by
 intro x
 refine ExT.rec (motive_1:=p) (motive_2:=fun l=>∀k∈l,p k) ?_ ?_ ?_ x
 ·intro op path name names arg n kA kn kc kids hk
  exact h _ hk
 ·intro k hk;simp at hk
 ·intro y r hy hr k hk
  rcases List.mem_cons.1 hk with rfl|hk
  ·exact hy
  ·exact hr k hk
theorem PrT.ind{p:PrT→Prop}(h:∀x:PrT,(∀k∈x.kids,p k)→p x):∀x,p x:=by
 intro x
 refine PrT.rec (motive_1:=p) (motive_2:=fun l=>∀k∈l,p k) ?_ ?_ ?_ x
 ·intro op path arg args n m sk pts sr ex kA kn kc kids hk
  exact h _ hk
 ·intro k hk;simp at hk
 ·intro y r hy hr k hk
  rcases List.mem_cons.1 hk with rfl|hk
  ·exact hy
  ·exact hr k hk
def recEx(x:ExT):List Value:=
 [.int .i64 x.op,x.path.v,.string x.name,x.names.v,.int .i64 x.arg.1.k,.int .i64 x.arg.1.n,.string x.arg.1.t,.slice x.arg.1.LA x.arg.1.ln x.arg.1.lc,.slice x.arg.1.DA x.arg.1.dn x.arg.1.dc,.int .i64 x.n,.slice x.kA x.kn x.kc]
abbrev arrEx(x:ExT):Array Value:=
 #[.int .i64 x.op,x.path.v,.string x.name,x.names.v,.int .i64 x.arg.1.k,.int .i64 x.arg.1.n,.string x.arg.1.t,.slice x.arg.1.LA x.arg.1.ln x.arg.1.lc,.slice x.arg.1.DA x.arg.1.dn x.arg.1.dc,.int .i64 x.n,.slice x.kA x.kn x.kc]
abbrev aggEx(x:ExT):Value:=.agg (arrEx x)
def recPr(p:PrT):List Value:=
 [.int .i64 p.op,p.path.v,.int .i64 p.arg.1.k,.int .i64 p.arg.1.n,.string p.arg.1.t,.slice p.arg.1.LA p.arg.1.ln p.arg.1.lc,.slice p.arg.1.DA p.arg.1.dn p.arg.1.dc,p.args.v,.int .i64 p.n,.int .i64 p.m,.int .i64 p.sk,p.pts.v,.int .i64 p.sr,
  .int .i64 p.ex.op,p.ex.path.v,.string p.ex.name,p.ex.names.v,.int .i64 p.ex.arg.1.k,.int .i64 p.ex.arg.1.n,.string p.ex.arg.1.t,.slice p.ex.arg.1.LA p.ex.arg.1.ln p.ex.arg.1.lc,.slice p.ex.arg.1.DA p.ex.arg.1.dn p.ex.arg.1.dc,.int .i64 p.ex.n,.slice p.ex.kA p.ex.kn p.ex.kc,
  .slice p.kA p.kn p.kc]
abbrev arrPr(p:PrT):Array Value:=
 #[.int .i64 p.op,p.path.v,.int .i64 p.arg.1.k,.int .i64 p.arg.1.n,.string p.arg.1.t,.slice p.arg.1.LA p.arg.1.ln p.arg.1.lc,.slice p.arg.1.DA p.arg.1.dn p.arg.1.dc,p.args.v,.int .i64 p.n,.int .i64 p.m,.int .i64 p.sk,p.pts.v,.int .i64 p.sr,
  .int .i64 p.ex.op,p.ex.path.v,.string p.ex.name,p.ex.names.v,.int .i64 p.ex.arg.1.k,.int .i64 p.ex.arg.1.n,.string p.ex.arg.1.t,.slice p.ex.arg.1.LA p.ex.arg.1.ln p.ex.arg.1.lc,.slice p.ex.arg.1.DA p.ex.arg.1.dn p.ex.arg.1.dc,.int .i64 p.ex.n,.slice p.ex.kA p.ex.kn p.ex.kc,
  .slice p.kA p.kn p.kc]
abbrev aggPr(p:PrT):Value:=.agg (arrPr p)
def recPt(p:Int×Int):List Value:=[.int .i64 p.1,.int .i64 p.2]
theorem recEx_length(x:ExT):(recEx x).length=11:=rfl
theorem recPr_length(p:PrT):(recPr p).length=25:=rfl
theorem recPt_length(p:Int×Int):(recPt p).length=2:=rfl
def WX(w:World):ExT→Prop
 | .mk _ path name names arg _ kA kn kc kids=>ST w path.A path.n path.c path.xs∧name.size≤reach∧ST w names.A names.n names.c names.xs∧RW w arg.1 arg.2∧SR 11 recEx w kA kn kc kids∧kn*184≤reach∧WXs w kids
where WXs (w:World):List ExT→Prop
 | []=>True
 | x::r=>WX w x∧WXs w r
def WP(w:World):PrT→Prop
 | .mk _ path arg args _ _ _ pts _ ex kA kn kc kids=>ST w path.A path.n path.c path.xs∧RW w arg.1 arg.2∧SL (fun _=>True) w args.A args.n args.c args.xs∧args.n≤1048576∧SR 2 recPt w pts.A pts.n pts.c pts.xs∧pts.n*16≤reach∧WX w ex∧SR 25 recPr w kA kn kc kids∧kn*400≤reach∧WPs w kids
where WPs (w:World):List PrT→Prop
 | []=>True
 | x::r=>WP w x∧WPs w r
theorem wxs_iff{w:World}{l:List ExT}:WX.WXs w l↔∀k∈l,WX w k:=by
 induction l with
 | nil=>simp[WX.WXs]
 | cons y r ih=>simp[WX.WXs,ih]
theorem wps_iff{w:World}{l:List PrT}:WP.WPs w l↔∀k∈l,WP w k:=by
 induction l with
 | nil=>simp[WP.WPs]
 | cons y r ih=>simp[WP.WPs,ih]
structure WXo(w:World)(x:ExT):Prop where
 path:ST w x.path.A x.path.n x.path.c x.path.xs
 nsz:x.name.size≤reach
 names:ST w x.names.A x.names.n x.names.c x.names.xs
 arg:RW w x.arg.1 x.arg.2
 sr:SR 11 recEx w x.kA x.kn x.kc x.kids
 ksz:x.kn*184≤reach
 kids:∀k∈x.kids,WX w k
theorem WX.open{w:World}{x:ExT}(h:WX w x):WXo w x:=by
 cases x
 obtain⟨h1,h2,h3,h4,h5,h6,h7⟩:=h
 exact⟨h1,h2,h3,h4,h5,h6,wxs_iff.1 h7⟩
theorem WXo.shut{w:World}{x:ExT}(h:WXo w x):WX w x:=by
 cases x
 exact⟨h.path,h.nsz,h.names,h.arg,h.sr,h.ksz,wxs_iff.2 h.kids⟩
structure WPo(w:World)(p:PrT):Prop where
 path:ST w p.path.A p.path.n p.path.c p.path.xs
 arg:RW w p.arg.1 p.arg.2
 args:SL (fun _=>True) w p.args.A p.args.n p.args.c p.args.xs
 few:p.args.n≤1048576
 pts:SR 2 recPt w p.pts.A p.pts.n p.pts.c p.pts.xs
 psz:p.pts.n*16≤reach
 ex:WX w p.ex
 sr:SR 25 recPr w p.kA p.kn p.kc p.kids
 ksz:p.kn*400≤reach
 kids:∀k∈p.kids,WP w k
theorem WP.open{w:World}{p:PrT}(h:WP w p):WPo w p:=by
 cases p
 obtain⟨h1,h2,h3,h4,h5,h6,h7,h8,h9,h10⟩:=h
 exact⟨h1,h2,h3,h4,h5,h6,h7,h8,h9,wps_iff.1 h10⟩
theorem WPo.shut{w:World}{p:PrT}(h:WPo w p):WP w p:=by
 cases p
 exact⟨h.path,h.arg,h.args,h.few,h.pts,h.psz,h.ex,h.sr,h.ksz,wps_iff.2 h.kids⟩
theorem WX.step{w w':World}(hb:Below w.heap.size w w'):∀{x:ExT},WX w x→WX w' x:=by
 intro x
 induction x using ExT.ind with
 | h x ih=>
  intro h
  have o:=h.open
  exact WXo.shut ⟨o.path.step hb,o.nsz,o.names.step hb,o.arg.step hb,o.sr.step hb,o.ksz,fun k hk=>ih k hk (o.kids k hk)⟩
theorem WP.step{w w':World}(hb:Below w.heap.size w w'):∀{p:PrT},WP w p→WP w' p:=by
 intro p
 induction p using PrT.ind with
 | h p ih=>
  intro h
  have o:=h.open
  exact WPo.shut ⟨o.path.step hb,o.arg.step hb,o.args.step hb,o.few,o.pts.step hb,o.psz,o.ex.step hb,o.sr.step hb,o.ksz,fun k hk=>ih k hk (o.kids k hk)⟩
def PrT.nodes:PrT→Nat
 | .mk _ _ _ _ _ _ _ _ _ _ _ _ _ kids=>1+nodesL kids
where nodesL:List PrT→Nat
 | []=>0
 | x::r=>x.nodes+nodesL r
theorem PrT.nodes_eq(p:PrT):p.nodes=1+PrT.nodes.nodesL p.kids:=by cases p;rfl
abbrev cmpI(x y:Int):Int:=Lib.compareInt x y
def cmpB(a b:ByteArray):Int:=Lib.compareBytes a.data.toList b.data.toList
mutual
def cmpV:Val→Val→Int
 | .mk k n t l d,y=>
  if k≠y.k then cmpI k y.k
  else if k=3∨k=9∨k=10 then cmpI n y.n
  else if k=4∨k=7∨k=8 then cmpB t y.t
  else if k=6 then cmpL l y.l
  else if k=5 then cmpD d y.d
  else 0
def cmpL:List Val→List Val→Int
 | [],m=>if m.isEmpty then 0 else -1
 | _::_,[]=>1
 | x::r,y::s=>if cmpV x y≠0 then cmpV x y else cmpL r s
def cmpD:List Fld→List Fld→Int
 | [],m=>if m.isEmpty then 0 else -1
 | _::_,[]=>1
 | x::r,y::s=>if cmpF x y≠0 then cmpF x y else cmpD r s
def cmpF:Fld→Fld→Int
 | .mk s v,g=>if cmpB s g.s≠0 then cmpB s g.s else cmpV v g.v
end
theorem cmpF_eq(f g:Fld):cmpF f g=if cmpB f.s g.s≠0 then cmpB f.s g.s else cmpV f.v g.v:=by cases f;rw[cmpF];rfl
theorem cmpV_eq(x y:Val):cmpV x y=if x.k≠y.k then cmpI x.k y.k else if x.k=3∨x.k=9∨x.k=10 then cmpI x.n y.n else if x.k=4∨x.k=7∨x.k=8 then cmpB x.t y.t
 else if x.k=6 then cmpL x.l y.l else if x.k=5 then cmpD x.d y.d else 0:=by
 cases x
 rw[cmpV]
 rfl
theorem cmpV_kind{x y:Val}(h:x.k≠y.k):cmpV x y=cmpI x.k y.k:=by rw[cmpV_eq,if_pos h]
theorem cmpV_int{x y:Val}(h:x.k=y.k)(h':x.k=3∨x.k=9∨x.k=10):cmpV x y=cmpI x.n y.n:=by rw[cmpV_eq,if_neg (by simpa using h),if_pos h']
theorem cmpV_text{x y:Val}(h:x.k=y.k)(h':x.k=4∨x.k=7∨x.k=8):cmpV x y=cmpB x.t y.t:=by rw[cmpV_eq,if_neg (by simpa using h),if_neg (by omega),if_pos h']
theorem cmpV_list{x y:Val}(h:x.k=y.k)(h':x.k=6):cmpV x y=cmpL x.l y.l:=by rw[cmpV_eq,if_neg (by simpa using h),if_neg (by omega),if_neg (by omega),if_pos h']
theorem cmpV_doc{x y:Val}(h:x.k=y.k)(h':x.k=5):cmpV x y=cmpD x.d y.d:=by rw[cmpV_eq,if_neg (by simpa using h),if_neg (by omega),if_neg (by omega),if_neg (by omega),if_pos h']
theorem cmpV_other{x y:Val}(h:x.k=y.k)(h3:x.k≠3)(h9:x.k≠9)(h10:x.k≠10)(h4:x.k≠4)(h7:x.k≠7)(h8:x.k≠8)(h6:x.k≠6)(h5:x.k≠5):cmpV x y=0:=by
 rw[cmpV_eq,if_neg (by simpa using h),if_neg (by omega),if_neg (by omega),if_neg h6,if_neg h5]
theorem cmpI_nat(a b:Nat):cmpI (a:Int) (b:Int)=if a<b then -1 else if b<a then 1 else 0:=by
 unfold cmpI Lib.compareInt
 rcases Nat.lt_trichotomy a b with h|h|h
 ·rw[if_pos (by omega),if_pos h]
 ·rw[if_neg (by omega),if_neg (by omega),if_neg (by omega),if_neg (by omega)]
 ·rw[if_neg (by omega),if_pos (by omega),if_neg (by omega),if_pos h]
theorem cmpL_end{l m:List Val}{i:Nat}(h1:i≤l.length)(h2:i≤m.length)(h:l.length≤i∨m.length≤i):cmpL (l.drop i) (m.drop i)=cmpI (l.length:Int) (m.length:Int):=by
 rw[cmpI_nat]
 by_cases hl:l.length≤i
 ·rw[List.drop_of_length_le hl,cmpL]
  by_cases hm:m.length≤i
  ·rw[List.drop_of_length_le hm,List.isEmpty_nil,if_pos (Eq.refl true),if_neg (by omega),if_neg (by omega)]
  ·rw[if_neg (by simp;omega),if_pos (by omega)]
 ·have hm:m.length≤i:=by omega
  rw[List.drop_of_length_le hm,List.drop_eq_getElem_cons (by omega:i<l.length),cmpL,if_neg (by omega),if_pos (by omega)]
theorem cmpL_at{l m:List Val}{i:Nat}{x y:Val}(hx:l[i]?=some x)(hy:m[i]?=some y):cmpL (l.drop i) (m.drop i)=if cmpV x y≠0 then cmpV x y else cmpL (l.drop (i+1)) (m.drop (i+1)):=by
 rw[drop_of hx,drop_of hy,cmpL]
theorem cmpD_end{l m:List Fld}{i:Nat}(h1:i≤l.length)(h2:i≤m.length)(h:l.length≤i∨m.length≤i):cmpD (l.drop i) (m.drop i)=cmpI (l.length:Int) (m.length:Int):=by
 rw[cmpI_nat]
 by_cases hl:l.length≤i
 ·rw[List.drop_of_length_le hl,cmpD]
  by_cases hm:m.length≤i
  ·rw[List.drop_of_length_le hm,List.isEmpty_nil,if_pos (Eq.refl true),if_neg (by omega),if_neg (by omega)]
  ·rw[if_neg (by simp;omega),if_pos (by omega)]
 ·have hm:m.length≤i:=by omega
  rw[List.drop_of_length_le hm,List.drop_eq_getElem_cons (by omega:i<l.length),cmpD,if_neg (by omega),if_pos (by omega)]
theorem cmpD_at{l m:List Fld}{i:Nat}{x y:Fld}(hx:l[i]?=some x)(hy:m[i]?=some y):cmpD (l.drop i) (m.drop i)=if cmpB x.s y.s≠0 then cmpB x.s y.s else if cmpV x.v y.v≠0 then cmpV x.v y.v else cmpD (l.drop (i+1)) (m.drop (i+1)):=by
 rw[drop_of hx,drop_of hy,cmpD,cmpF_eq]
 by_cases hb:cmpB x.s y.s=0
 ·simp[hb]
 ·simp[hb]
theorem kind_ways(k:Int):(k=3∨k=9∨k=10)∨(k=4∨k=7∨k=8)∨k=6∨k=5∨(k≠3∧k≠9∧k≠10∧k≠4∧k≠7∧k≠8∧k≠6∧k≠5):=by omega
def setList{α:Type}(l:List α)(k:Nat):List α→List α
 | []=>l
 | v::vs=>setList (l.set k v) (k+1) vs
theorem setList_eq{α:Type}:∀(vs l:List α) (k:Nat),k+vs.length≤l.length→setList l k vs=l.take k++vs++l.drop (k+vs.length):=by
 intro vs
 induction vs with
 | nil=>intro l k _;simp[setList]
 | cons v vs ih=>
  intro l k h
  simp only[List.length_cons] at h
  rw[setList,ih _ _ (by simp;omega),List.take_set,List.drop_set_of_lt (by omega)]
  have e1:(l.take (k+1)).set k v=l.take k++[v]:=by
   rw[List.take_succ_eq_append_getElem (by omega),List.set_append_right _ _ (by simp;omega)]
   simp
   rw[show k-min k l.length=0 by omega]
   rfl
  rw[e1]
  simp only[List.append_assoc,List.singleton_append,List.length_cons,show k+1+vs.length=k+(vs.length+1) by omega]
def TR(a b c:Int):Prop:=a≤0→b≤0→c≤0∧(c=0↔a=0∧b=0)
def utf8B(t:ByteArray):Bool:=Lib.validD t.data.toList
def HeadP(k n:Int)(t:ByteArray)(ln dn:Nat):Prop:=
 (k=3∨k=9∨k=10∨n=0)∧(k=4∨k=7∨k=8∨t.size=0)∧(k=6∨ln=0)∧(k=5∨dn=0)∧
 (k=1∨k=2∨k=11∨k=3∨(k=9∧(n=0∨n=1))∨(k=10∧0≤n)∨(k=4∧t.size≤4096∧utf8B t=true)∨(k=7∧t.size≤4096)∨(k=8∧t.size=12)∨k=6∨k=5)
def NamesP(nm:ByteArray→Bool)(d:List Fld):Prop:=(∀f∈d,nm f.s=true)∧(d.map Fld.s).Nodup
mutual
def SoundV(nm:ByteArray→Bool):Val→Prop
 | .mk k n t l d=>HeadP k n t l.length d.length∧SoundLs nm l∧SoundDs nm d∧NamesP nm d
def SoundLs(nm:ByteArray→Bool):List Val→Prop
 | []=>True
 | x::r=>SoundV nm x∧SoundLs nm r
def SoundDs(nm:ByteArray→Bool):List Fld→Prop
 | []=>True
 | f::r=>SoundF nm f∧SoundDs nm r
def SoundF(nm:ByteArray→Bool):Fld→Prop
 | .mk _ v=>SoundV nm v
end
theorem SoundLs_iff(nm:ByteArray→Bool)(l:List Val):SoundLs nm l↔∀y∈l,SoundV nm y:=by
 induction l with
 | nil=>simp[SoundLs]
 | cons x r ih=>simp[SoundLs,ih]
theorem SoundF_iff(nm:ByteArray→Bool)(f:Fld):SoundF nm f↔SoundV nm f.v:=by cases f;simp only[SoundF];rfl
theorem SoundDs_iff(nm:ByteArray→Bool)(d:List Fld):SoundDs nm d↔∀f∈d,SoundV nm f.v:=by
 induction d with
 | nil=>simp[SoundDs]
 | cons x r ih=>simp[SoundDs,ih,SoundF_iff]
theorem SoundV_iff(nm:ByteArray→Bool)(x:Val):SoundV nm x↔HeadP x.k x.n x.t x.l.length x.d.length∧(∀y∈x.l,SoundV nm y)∧(∀f∈x.d,SoundV nm f.v)∧NamesP nm x.d:=by
 cases x
 rw[SoundV,SoundLs_iff,SoundDs_iff]
 rfl
def FieldsP(nm:ByteArray→Bool)(d:List Fld):Prop:=NamesP nm d∧∀f∈d,SoundV nm f.v
noncomputable def soundB(nm:ByteArray→Bool)(x:Val):Bool:=@decide (SoundV nm x) (Classical.propDecidable _)
noncomputable def fieldsB(nm:ByteArray→Bool)(d:List Fld):Bool:=@decide (FieldsP nm d) (Classical.propDecidable _)
section
variable {nm:ByteArray→Bool} {x:Val} {d:List Fld}
theorem soundB_true(h:SoundV nm x):soundB nm x=true:=by unfold soundB;exact @decide_eq_true _ (Classical.propDecidable _) h
theorem soundB_false(h:¬SoundV nm x):soundB nm x=false:=by unfold soundB;exact @decide_eq_false _ (Classical.propDecidable _) h
theorem soundB_iff:soundB nm x=true↔SoundV nm x:=by unfold soundB;exact @decide_eq_true_iff _ (Classical.propDecidable _)
theorem soundB_not:soundB nm x=false↔¬SoundV nm x:=by unfold soundB;exact @decide_eq_false_iff_not _ (Classical.propDecidable _)
theorem fieldsB_true(h:FieldsP nm d):fieldsB nm d=true:=by unfold fieldsB;exact @decide_eq_true _ (Classical.propDecidable _) h
theorem fieldsB_false(h:¬FieldsP nm d):fieldsB nm d=false:=by unfold fieldsB;exact @decide_eq_false _ (Classical.propDecidable _) h
theorem FieldsP.nil:FieldsP nm []:=⟨⟨by simp,by simp⟩,by simp⟩
theorem FieldsP.next{i:Nat}{f:Fld}(h:FieldsP nm (d.take i))(hf:d[i]?=some f)(h1:nm f.s=true)(h2:f.s∉(d.take i).map Fld.s)(h3:SoundV nm f.v):FieldsP nm (d.take (i+1)):=by
 rw[take_snoc' hf]
 refine⟨⟨fun g hg=>?_,?_⟩,fun g hg=>?_⟩
 ·rcases List.mem_append.1 hg with hg|hg
  ·exact h.1.1 g hg
  ·simp at hg;subst hg;exact h1
 ·rw[List.map_append,List.nodup_append]
  refine⟨h.1.2,by simp,fun a ha b hb=>?_⟩
  simp at hb
  subst hb
  intro e
  subst e
  exact h2 ha
 ·rcases List.mem_append.1 hg with hg|hg
  ·exact h.2 g hg
  ·simp at hg;subst hg;exact h3
theorem FieldsP.not_name{i:Nat}{f:Fld}(hf:d[i]?=some f)(h1:nm f.s=false):¬FieldsP nm d:=fun h=>by
 have:=h.1.1 f (List.mem_of_getElem? hf)
 rw[h1] at this
 cases this
theorem FieldsP.not_sound{i:Nat}{f:Fld}(hf:d[i]?=some f)(h1:¬SoundV nm f.v):¬FieldsP nm d:=fun h=>h1 (h.2 f (List.mem_of_getElem? hf))
theorem FieldsP.not_new{i:Nat}{f:Fld}(hf:d[i]?=some f)(h1:f.s∈(d.take i).map Fld.s):¬FieldsP nm d:=fun h=>by
 have hn:=h.1.2
 have e:d=d.take i++f::d.drop (i+1):=by rw[←drop_of hf,List.take_append_drop]
 rw[e,List.map_append,List.nodup_append] at hn
 exact hn.2.2 f.s h1 f.s (by simp) rfl
end
theorem sound_doc{nm:ByteArray→Bool}{x:Val}(hk:x.k=5)(hh:HeadP x.k x.n x.t x.l.length x.d.length):soundB nm x=fieldsB nm x.d:=by
 have hl:x.l=[]:=List.eq_nil_of_length_eq_zero (by have:=hh.2.2.1;omega)
 by_cases h:FieldsP nm x.d
 ·rw[fieldsB_true h]
  exact soundB_true ((SoundV_iff nm x).2 ⟨hh,by simp[hl],h.2,h.1⟩)
 ·rw[fieldsB_false h]
  exact soundB_false fun hs=>h ⟨((SoundV_iff nm x).1 hs).2.2.2,((SoundV_iff nm x).1 hs).2.2.1⟩
theorem sound_list{nm:ByteArray→Bool}{x:Val}(hk:x.k=6)(hh:HeadP x.k x.n x.t x.l.length x.d.length)(h:∀y∈x.l,SoundV nm y):soundB nm x=true:=by
 have hd:x.d=[]:=List.eq_nil_of_length_eq_zero (by have:=hh.2.2.2.1;omega)
 exact soundB_true ((SoundV_iff nm x).2 ⟨hh,h,by simp[hd],by simp[hd,NamesP]⟩)
theorem sound_not{nm:ByteArray→Bool}{x:Val}(h:¬HeadP x.k x.n x.t x.l.length x.d.length):soundB nm x=false:=soundB_false fun hs=>h ((SoundV_iff nm x).1 hs).1
theorem sound_not_at{nm:ByteArray→Bool}{x:Val}{i:Nat}{y:Val}(hy:x.l[i]?=some y)(h:¬SoundV nm y):soundB nm x=false:=soundB_false fun hs=>h (((SoundV_iff nm x).1 hs).2.1 y (List.mem_of_getElem? hy))
theorem sound_leaf{nm:ByteArray→Bool}{x:Val}(h5:x.k≠5)(h6:x.k≠6)(hh:HeadP x.k x.n x.t x.l.length x.d.length):soundB nm x=true:=by
 have hl:x.l=[]:=List.eq_nil_of_length_eq_zero (by have:=hh.2.2.1;omega)
 have hd:x.d=[]:=List.eq_nil_of_length_eq_zero (by have:=hh.2.2.2.1;omega)
 exact soundB_true ((SoundV_iff nm x).2 ⟨hh,by simp[hl],by simp[hd],by simp[hd,NamesP]⟩)
noncomputable def validV(x:Val):Bool:=decide (x.size≤1024)&&decide (x.height≤16)&&soundB nameB x
def lex(c d:Int):Int:=if c≠0 then c else d
theorem lex_ways(c d:Int):c≠0∧lex c d=c∨c=0∧lex c d=d:=by
 unfold lex
 by_cases h:c=0
 ·exact .inr ⟨h,by simp[h]⟩
 ·exact .inl ⟨h,by simp[h]⟩
theorem TR.lx{a b c a' b' c':Int}(h:TR a b c)(h':TR a' b' c'):TR (lex a a') (lex b b') (lex c c'):=by
 intro h1 h2
 rcases lex_ways a a' with ha|ha<;>rcases lex_ways b b' with hb|hb<;>rcases lex_ways c c' with hc|hc
 all_goals
  have H:=h (by omega) (by omega)
  by_cases hab:a=0∧b=0
  ·have H':=h' (by omega) (by omega)
   omega
  ·omega
theorem cmpI_rng(a b:Int):-1≤cmpI a b∧cmpI a b≤1:=by unfold cmpI Lib.compareInt;repeat' split<;>omega
theorem cmpI_anti(a b:Int):cmpI b a=-cmpI a b:=by unfold cmpI Lib.compareInt;repeat' split<;>omega
theorem cmpI_ways(a b:Int):a<b∧cmpI a b=-1∨a=b∧cmpI a b=0∨b<a∧cmpI a b=1:=by unfold cmpI Lib.compareInt;repeat' split<;>omega
theorem cmpI_tr(a b c:Int):TR (cmpI a b) (cmpI b c) (cmpI a c):=by
 unfold TR
 intro h1 h2
 rcases cmpI_ways a b with h|h|h<;>rcases cmpI_ways b c with h' | h' | h'<;>rcases cmpI_ways a c with h3|h3|h3<;>omega
theorem cmpI_zero{a b:Int}:cmpI a b=0↔a=b:=by unfold cmpI Lib.compareInt;repeat' split<;>omega
theorem cmpBy_rng:∀a b:List UInt8,-1≤Lib.compareBytes a b∧Lib.compareBytes a b≤1
 | [],[]=>by simp[Lib.compareBytes]
 | [],_::_=>by simp[Lib.compareBytes]
 | _::_,[]=>by simp[Lib.compareBytes]
 | a::a2,b::b2=>by
  rw[Lib.compareBytes]
  repeat' split
  ·omega
  ·omega
  ·exact cmpBy_rng a2 b2
theorem cmpBy_lex(a b:UInt8)(l m:List UInt8):Lib.compareBytes (a::l) (b::m)=lex (cmpI (a.toNat:Int) (b.toNat:Int)) (Lib.compareBytes l m):=by
 rw[Lib.compareBytes]
 unfold cmpI Lib.compareInt lex
 have e1:a<b↔a.toNat<b.toNat:=UInt8.lt_iff_toNat_lt
 have e2:b<a↔b.toNat<a.toNat:=UInt8.lt_iff_toNat_lt
 rcases Nat.lt_trichotomy a.toNat b.toNat with h|h|h
 ·rw[if_pos (e1.2 h),if_pos (show(a.toNat:Int)<b.toNat by omega)];rfl
 ·rw[if_neg (by rw[e1];omega),if_neg (by rw[e2];omega),if_neg (show ¬(a.toNat:Int)<b.toNat by omega),if_neg (show ¬(a.toNat:Int)>b.toNat by omega)];rfl
 ·rw[if_neg (by rw[e1];omega),if_pos (e2.2 h),if_neg (show ¬(a.toNat:Int)<b.toNat by omega),if_pos (show(a.toNat:Int)>b.toNat by omega)];rfl
theorem lex_anti{c d c' d':Int}(h:c'=-c)(h':d'=-d):lex c' d'=-lex c d:=by unfold lex;repeat' split<;>omega
theorem lex_rng{c d:Int}(h:-1≤c∧c≤1)(h':-1≤d∧d≤1):-1≤lex c d∧lex c d≤1:=by unfold lex;split<;>omega
theorem lex_zero{c d:Int}:lex c d=0↔c=0∧d=0:=by unfold lex;split<;>omega
theorem cmpBy_anti:∀a b:List UInt8,Lib.compareBytes b a=-Lib.compareBytes a b
 | [],[]=>by simp[Lib.compareBytes]
 | [],_::_=>by simp[Lib.compareBytes]
 | _::_,[]=>by simp[Lib.compareBytes]
 | a::a2,b::b2=>by rw[cmpBy_lex,cmpBy_lex];exact lex_anti (cmpI_anti _ _) (cmpBy_anti a2 b2)
theorem cmpBy_tr:∀a b c:List UInt8,TR (Lib.compareBytes a b) (Lib.compareBytes b c) (Lib.compareBytes a c)
 | [],[],[]=>by simp[Lib.compareBytes,TR]
 | [],[],_::_=>by simp[Lib.compareBytes,TR]
 | [],_::_,[]=>by simp[Lib.compareBytes,TR]
 | [],_::_,_::_=>by simp[Lib.compareBytes,TR]
 | _::_,[],[]=>by simp[Lib.compareBytes,TR]
 | _::_,[],_::_=>by simp[Lib.compareBytes,TR]
 | _::_,_::_,[]=>by simp[Lib.compareBytes,TR]
 | a::a2,b::b2,c::c2=>by
  rw[cmpBy_lex,cmpBy_lex,cmpBy_lex]
  exact(cmpI_tr _ _ _).lx (cmpBy_tr a2 b2 c2)
theorem cmpBy_zero:∀a b:List UInt8,Lib.compareBytes a b=0↔a=b
 | [],[]=>by simp[Lib.compareBytes]
 | [],_::_=>by simp[Lib.compareBytes]
 | _::_,[]=>by simp[Lib.compareBytes]
 | a::a2,b::b2=>by
  rw[cmpBy_lex,lex_zero,cmpI_zero,cmpBy_zero a2 b2]
  constructor
  ·rintro⟨h1,rfl⟩
   rw[show a=b from UInt8.toNat_inj.1 (by omega)]
  ·intro h
   injection h with h1 h2
   exact⟨by rw[h1],h2⟩
theorem cmpB_zero{a b:ByteArray}:cmpB a b=0↔a=b:=by
 unfold cmpB
 rw[cmpBy_zero]
 exact⟨fun h=>Go.WideShapes.bytes_inj h,fun h=>by rw[h]⟩
structure OrdAt(x:Val):Prop where
 rng:∀y,-1≤cmpV x y∧cmpV x y≤1
 anti:∀y,cmpV y x=-cmpV x y
 tr:∀y z,TR (cmpV x y) (cmpV y z) (cmpV x z)
structure OrdL(l:List Val):Prop where
 rng:∀m,-1≤cmpL l m∧cmpL l m≤1
 anti:∀m,cmpL m l=-cmpL l m
 tr:∀m n,TR (cmpL l m) (cmpL m n) (cmpL l n)
structure OrdD(l:List Fld):Prop where
 rng:∀m,-1≤cmpD l m∧cmpD l m≤1
 anti:∀m,cmpD m l=-cmpD l m
 tr:∀m n,TR (cmpD l m) (cmpD m n) (cmpD l n)
theorem cmpF_lex(f g:Fld):cmpF f g=lex (cmpB f.s g.s) (cmpV f.v g.v):=by rw[cmpF_eq];rfl
theorem cmpL_cons(x y:Val)(r s:List Val):cmpL (x::r) (y::s)=lex (cmpV x y) (cmpL r s):=by rw[cmpL];rfl
theorem cmpD_cons(x y:Fld)(r s:List Fld):cmpD (x::r) (y::s)=lex (cmpF x y) (cmpD r s):=by rw[cmpD];rfl
theorem ordVL:∀l:List Val,(∀x∈l,OrdAt x)→OrdL l:=by
 intro l
 induction l with
 | nil=>
  intro _
  refine⟨fun m=>?_,fun m=>?_,fun m n=>?_⟩
  ·cases m<;>simp[cmpL]
  ·cases m<;>simp[cmpL]
  ·cases m<;>cases n<;>simp[cmpL,TR]
 | cons x r ih=>
  intro h
  have hx:=h x (by simp)
  have hr:=ih fun y hy=>h y (by simp[hy])
  refine⟨fun m=>?_,fun m=>?_,fun m n=>?_⟩
  ·cases m with
   | nil=>simp[cmpL]
   | cons y s=>rw[cmpL_cons];exact lex_rng (hx.rng y) (hr.rng s)
  ·cases m with
   | nil=>simp[cmpL]
   | cons y s=>rw[cmpL_cons,cmpL_cons];exact lex_anti (hx.anti y) (hr.anti s)
  ·cases m with
   | nil=>cases n<;>simp[cmpL,TR]
   | cons y s=>
    cases n with
    | nil=>simp[cmpL,TR]
    | cons z t=>
     rw[cmpL_cons,cmpL_cons,cmpL_cons]
     exact(hx.tr y z).lx (hr.tr s t)
theorem cmpB_rng(a b:ByteArray):-1≤cmpB a b∧cmpB a b≤1:=cmpBy_rng _ _
theorem cmpB_anti(a b:ByteArray):cmpB b a=-cmpB a b:=cmpBy_anti _ _
theorem cmpB_tr(a b c:ByteArray):TR (cmpB a b) (cmpB b c) (cmpB a c):=cmpBy_tr _ _ _
theorem ordD:∀l:List Fld,(∀f∈l,OrdAt f.v)→OrdD l:=by
 intro l
 induction l with
 | nil=>
  intro _
  refine⟨fun m=>?_,fun m=>?_,fun m n=>?_⟩
  ·cases m<;>simp[cmpD]
  ·cases m<;>simp[cmpD]
  ·cases m<;>cases n<;>simp[cmpD,TR]
 | cons x r ih=>
  intro h
  have hx:=h x (by simp)
  have hr:=ih fun y hy=>h y (by simp[hy])
  refine⟨fun m=>?_,fun m=>?_,fun m n=>?_⟩
  ·cases m with
   | nil=>simp[cmpD]
   | cons y s=>rw[cmpD_cons,cmpF_lex];exact lex_rng (lex_rng (cmpB_rng _ _) (hx.rng y.v)) (hr.rng s)
  ·cases m with
   | nil=>simp[cmpD]
   | cons y s=>rw[cmpD_cons,cmpD_cons,cmpF_lex,cmpF_lex];exact lex_anti (lex_anti (cmpB_anti _ _) (hx.anti y.v)) (hr.anti s)
  ·cases m with
   | nil=>cases n<;>simp[cmpD,TR]
   | cons y s=>
    cases n with
    | nil=>simp[cmpD,TR]
    | cons z t=>
     rw[cmpD_cons,cmpD_cons,cmpD_cons,cmpF_lex,cmpF_lex,cmpF_lex]
     exact((cmpB_tr _ _ _).lx (hx.tr y.v z.v)).lx (hr.tr s t)
def cmpK(x y:Val):Int:=if x.k=3∨x.k=9∨x.k=10 then cmpI x.n y.n else if x.k=4∨x.k=7∨x.k=8 then cmpB x.t y.t else if x.k=6 then cmpL x.l y.l else if x.k=5 then cmpD x.d y.d else 0
theorem cmpV_K{x y:Val}(h:x.k=y.k):cmpV x y=cmpK x y:=by rw[cmpV_eq,if_neg (by simpa using h)];rfl
theorem ordAt:∀x,OrdAt x:=by
 intro x
 induction x using Val.ind with
 | h k n t l d ihl ihd=>
 have hL:=ordVL l ihl
 have hD:=ordD d ihd
 have rK:∀y,-1≤cmpK (.mk k n t l d) y∧cmpK (.mk k n t l d) y≤1:=by
  intro y
  unfold cmpK
  split
  ·exact cmpI_rng _ _
  ·split
   ·exact cmpB_rng _ _
   ·split
    ·exact hL.rng y.l
    ·split
     ·exact hD.rng y.d
     ·omega
 have aK:∀y,y.k=k→cmpK y (.mk k n t l d)=-cmpK (.mk k n t l d) y:=by
  intro y hy
  unfold cmpK
  rw[hy]
  simp only[show(Val.mk k n t l d).k=k from rfl]
  split
  ·exact cmpI_anti _ _
  ·split
   ·exact cmpB_anti _ _
   ·split
    ·exact hL.anti y.l
    ·split
     ·exact hD.anti y.d
     ·rfl
 have tK:∀y z,y.k=k→TR (cmpK (.mk k n t l d) y) (cmpK y z) (cmpK (.mk k n t l d) z):=by
  intro y z hy
  unfold cmpK
  rw[hy]
  simp only[show(Val.mk k n t l d).k=k from rfl]
  split
  ·exact cmpI_tr _ _ _
  ·split
   ·exact cmpB_tr _ _ _
   ·split
    ·exact hL.tr y.l z.l
    ·split
     ·exact hD.tr y.d z.d
     ·simp[TR]
 refine⟨fun y=>?_,fun y=>?_,fun y z=>?_⟩
 ·by_cases h:(Val.mk k n t l d).k=y.k
  ·rw[cmpV_K h];exact rK y
  ·rw[cmpV_kind h];exact cmpI_rng _ _
 ·by_cases h:(Val.mk k n t l d).k=y.k
  ·rw[cmpV_K h,cmpV_K h.symm];exact aK y h.symm
  ·rw[cmpV_kind h,cmpV_kind (fun e=>h e.symm)];exact cmpI_anti _ _
 ·intro h1 h2
  have hk:(Val.mk k n t l d).k=k:=rfl
  have ek:cmpI k y.k≤0:=by
   by_cases h:k=y.k
   ·rw[cmpI_zero.2 h];omega
   ·rw[cmpV_kind (by rw[hk];exact h)] at h1;exact h1
  have ek2:cmpI y.k z.k≤0:=by
   by_cases h:y.k=z.k
   ·rw[cmpI_zero.2 h];omega
   ·rw[cmpV_kind h] at h2;exact h2
  have ek3:=cmpI_tr k y.k z.k ek ek2
  by_cases h:k=y.k
  ·by_cases h':y.k=z.k
   ·rw[cmpV_K (y:=y) (by rw[hk];exact h)] at h1 ⊢
    rw[cmpV_K h'] at h2 ⊢
    rw[cmpV_K (y:=z) (by rw[hk];omega)]
    exact tK y z h.symm h1 h2
   ·have h3:k≠z.k:=by omega
    rw[cmpV_kind h'] at h2 ⊢
    rw[cmpV_kind (y:=z) (by rw[hk];exact h3),hk,←h]
    have:=fun e=>h3 (cmpI_zero.1 e)
    rw[←h] at h2
    refine⟨h2,fun e=>absurd e this,fun e=>absurd e.2 this⟩
  ·have h3:cmpI k y.k≠0:=fun e=>h (cmpI_zero.1 e)
   have h4:cmpI k z.k≠0:=fun e=>h3 (ek3.2.1 e).1
   have e1:cmpV (.mk k n t l d) y=cmpI k y.k:=cmpV_kind (by rw[hk];exact h)
   have e2:cmpV (.mk k n t l d) z=cmpI k z.k:=cmpV_kind (by rw[hk];exact fun e=>h4 (cmpI_zero.2 e))
   rw[e1,e2]
   exact⟨ek3.1,fun e=>absurd e h4,fun e=>absurd e.1 h3⟩
theorem cmpV_anti(x y:Val):cmpV y x=-cmpV x y:=(ordAt x).anti y
theorem cmpV_tr(x y z:Val):TR (cmpV x y) (cmpV y z) (cmpV x z):=(ordAt x).tr y z
theorem cmpV_self(x:Val):cmpV x x=0:=by have:=cmpV_anti x x;omega
theorem cmpL_eq{l:List Val}:∀{m:List Val},(∀x∈l,∀y,cmpV x y=0→y∈m→x=y)→cmpL l m=0→l=m:=by
 induction l with
 | nil=>intro m _ h;cases m with
  | nil=>rfl
  | cons y s=>simp[cmpL] at h
 | cons x r ih=>
  intro m hx h
  cases m with
  | nil=>simp[cmpL] at h
  | cons y s=>
   rw[cmpL_cons,lex_zero] at h
   rw[hx x (by simp) y h.1 (by simp),ih (fun a ha b hb hm=>hx a (by simp[ha]) b hb (by simp[hm])) h.2]
theorem cmpD_eq{l:List Fld}:∀{m:List Fld},(∀x∈l,∀y,cmpV x.v y.v=0→y∈m→x.v=y.v)→cmpD l m=0→l=m:=by
 induction l with
 | nil=>intro m _ h;cases m with
  | nil=>rfl
  | cons y s=>simp[cmpD] at h
 | cons x r ih=>
  intro m hx h
  cases m with
  | nil=>simp[cmpD] at h
  | cons y s=>
   rw[cmpD_cons,lex_zero,cmpF_lex,lex_zero] at h
   have e1:x.s=y.s:=cmpB_zero.1 h.1.1
   have e2:x.v=y.v:=hx x (by simp) y h.1.2 (by simp)
   have e:x=y:=by cases x;cases y;simp only[Fld.s,Fld.v] at e1 e2;rw[e1,e2]
   rw[e,ih (fun a ha b hb hm=>hx a (by simp[ha]) b hb (by simp[hm])) h.2]
theorem cmpV_same{nm:ByteArray→Bool}:∀x y:Val,SoundV nm x→SoundV nm y→cmpV x y=0→x=y:=by
 intro x
 induction x using Val.ind with
 | h k n t l d ihl ihd=>
 intro y hx hy h
 obtain⟨hx0,hx1,hx2,_⟩:=(SoundV_iff nm _).1 hx
 obtain⟨hy0,hy1,hy2,_⟩:=(SoundV_iff nm _).1 hy
 have hk:k=y.k:=by
  by_cases e:(Val.mk k n t l d).k=y.k
  ·exact e
  ·rw[cmpV_kind e] at h;exact absurd (cmpI_zero.1 h) e
 cases y with
 | mk k' n' t' l' d'=>
 simp only[Val.k,Val.n,Val.t,Val.l,Val.d] at*
 subst hk
 have h':(if k=3∨k=9∨k=10 then cmpI n n' else if k=4∨k=7∨k=8 then cmpB t t' else if k=6 then cmpL l l' else if k=5 then cmpD d d' else 0)=0:=(cmpV_K (x:=.mk k n t l d) (y:=.mk k n' t' l' d') rfl).symm.trans h
 have nil:∀{α:Type} {a b:List α},a.length=0→b.length=0→a=b:=fun ha hb=>by rw[List.eq_nil_of_length_eq_zero ha,List.eq_nil_of_length_eq_zero hb]
 have emp:∀{a b:ByteArray},a.size=0→b.size=0→a=b:=fun {a b} ha hb=>Go.WideShapes.bytes_inj (by
  rw[List.eq_nil_of_length_eq_zero (l:=a.data.toList) (by simpa using ha),List.eq_nil_of_length_eq_zero (l:=b.data.toList) (by simpa using hb)])
 obtain⟨a1,a2,a3,a4,_⟩:=hx0
 obtain⟨b1,b2,b3,b4,_⟩:=hy0
 split at h'
 ·rename_i hi
  rw[cmpI_zero.1 h',emp (a:=t) (b:=t') (by omega) (by omega),nil (a:=l) (b:=l') (by omega) (by omega),nil (a:=d) (b:=d') (by omega) (by omega)]
 ·split at h'
  ·rename_i hi ht
   rw[show n=n' by omega,cmpB_zero.1 h',nil (a:=l) (b:=l') (by omega) (by omega),nil (a:=d) (b:=d') (by omega) (by omega)]
  ·split at h'
   ·rename_i hi ht h6
    rw[show n=n' by omega,emp (a:=t) (b:=t') (by omega) (by omega),nil (a:=d) (b:=d') (by omega) (by omega),
     cmpL_eq (fun a ha b hb hm=>ihl a ha b (hx1 a ha) (hy1 b hm) hb) h']
   ·split at h'
    ·rename_i hi ht h6 h5
     rw[show n=n' by omega,emp (a:=t) (b:=t') (by omega) (by omega),nil (a:=l) (b:=l') (by omega) (by omega),
      cmpD_eq (fun a ha b hb hm=>ihd a ha b.v (hx2 a ha) (hy2 b hm) hb) h']
    ·rw[show n=n' by omega,emp (a:=t) (b:=t') (by omega) (by omega),nil (a:=l) (b:=l') (by omega) (by omega),nil (a:=d) (b:=d') (by omega) (by omega)]
structure Lin{α:Type}(cm:α→α→Int)(V:α→Prop):Prop where
 anti:∀x y,cm y x=-cm x y
 tr:∀x y z,TR (cm x y) (cm y z) (cm x z)
 eq:∀x y,V x→V y→cm x y=0→x=y
section
variable {α:Type} {cm:α→α→Int} {V:α→Prop}
theorem Lin.self(H:Lin cm V)(x:α):cm x x=0:=by have:=H.anti x x;omega
def inS(cm:α→α→Int)(a:α)(l:List (α×α)):Prop:=∃s∈l,cm s.1 a≤0∧cm a s.2<0
theorem inS_nil(a:α):¬inS cm a []:=by rintro⟨s,hs,_⟩;simp at hs
theorem inS_cons{a:α}{s:α×α}{l:List (α×α)}:inS cm a (s::l)↔(cm s.1 a≤0∧cm a s.2<0)∨inS cm a l:=by
 constructor
 ·rintro⟨t,ht,h⟩
  rcases List.mem_cons.1 ht with rfl|ht
  ·exact .inl h
  ·exact .inr ⟨t,ht,h⟩
 ·rintro(h|⟨t,ht,h⟩)
  ·exact⟨s,by simp,h⟩
  ·exact⟨t,by simp[ht],h⟩
theorem inS_app{a:α}{l m:List (α×α)}:inS cm a (l++m)↔inS cm a l∨inS cm a m:=by
 induction l with
 | nil=>simp only[List.nil_append];exact⟨.inr,fun h=>h.resolve_left (inS_nil a)⟩
 | cons s r ih=>rw[List.cons_append,inS_cons,inS_cons,ih,or_assoc]
theorem inS_one{a:α}{s:α×α}:inS cm a [s]↔(cm s.1 a≤0∧cm a s.2<0):=by rw[inS_cons];exact⟨fun h=>h.resolve_right (inS_nil a),.inl⟩
theorem inS_perm{a:α}{l m:List (α×α)}(h:l.Perm m):inS cm a l↔inS cm a m:=by
 constructor
 ·rintro⟨s,hs,k⟩;exact⟨s,h.subset hs,k⟩
 ·rintro⟨s,hs,k⟩;exact⟨s,h.symm.subset hs,k⟩
structure NF(cm:α→α→Int)(V:α→Prop)(l:List (α×α)):Prop where
 ne:∀s∈l,cm s.1 s.2<0∧V s.1∧V s.2
 ord:l.Pairwise fun s t=>cm s.2 t.1<0
theorem NF.nil:NF cm V []:=⟨fun s hs=>by simp at hs,.nil⟩
theorem NF.tail{s:α×α}{l:List (α×α)}(h:NF cm V (s::l)):NF cm V l:=⟨fun t ht=>h.ne t (by simp[ht]),List.Pairwise.of_cons h.ord⟩
theorem NF.head{s:α×α}{l:List (α×α)}(h:NF cm V (s::l)){t:α×α}(ht:t∈l):cm s.2 t.1<0:=List.rel_of_pairwise_cons h.ord ht
theorem nf_unique(H:Lin cm V):∀{l m:List (α×α)},NF cm V l→NF cm V m→(∀a,V a→(inS cm a l↔inS cm a m))→l=m:=by
 intro l
 induction l with
 | nil=>
  intro m _ hm h
  cases m with
  | nil=>rfl
  | cons t q=>
   have ht:=hm.ne t (by simp)
   exact absurd ((h t.1 ht.2.1).2 (inS_cons.2 (.inl ⟨by rw[H.self];omega,ht.1⟩))) (inS_nil _)
 | cons s r ih=>
  intro m hl hm h
  cases m with
  | nil=>
   have hs:=hl.ne s (by simp)
   exact absurd ((h s.1 hs.2.1).1 (inS_cons.2 (.inl ⟨by rw[H.self];omega,hs.1⟩))) (inS_nil _)
  | cons t q=>
   have hs:=hl.ne s (by simp)
   have ht:=hm.ne t (by simp)
   have low:∀{s t:α×α} {r q:List (α×α)},NF cm V (s::r)→NF cm V (t::q)→(inS cm s.1 (s::r)→inS cm s.1 (t::q))→cm t.1 s.1≤0:=by
    intro s t r q hl hm h
    have hs:=hl.ne s (by simp)
    rcases inS_cons.1 (h (inS_cons.2 (.inl ⟨by rw[H.self];omega,hs.1⟩))) with k|⟨u,hu,k⟩
    ·exact k.1
    ·have h1:=hm.head hu
     have h2:=(hm.ne t (by simp)).1
     have h3:=H.tr t.1 t.2 u.1 (by omega) (by omega)
     have h4:=H.tr t.1 u.1 s.1 (by omega) (by omega)
     omega
   have e1:s.1=t.1:=by
    have a1:=low hl hm (h s.1 hs.2.1).1
    have a2:=low hm hl (h t.1 ht.2.1).2
    have:=H.anti s.1 t.1
    exact H.eq _ _ hs.2.1 ht.2.1 (by omega)
   have up:∀{s t:α×α} {r q:List (α×α)},s.1=t.1→NF cm V (s::r)→(inS cm s.2 (t::q)→inS cm s.2 (s::r))→¬cm s.2 t.2<0:=by
    intro s t r q e hl h hlt
    have hs:=hl.ne s (by simp)
    have:=h (inS_cons.2 (.inl ⟨by rw[←e];omega,hlt⟩))
    rcases inS_cons.1 this with k|⟨u,hu,k⟩
    ·have:=H.self s.2;omega
    ·have h1:=hl.head hu
     have:=H.anti s.2 u.1
     omega
   have e2:s.2=t.2:=by
    have a1:=up e1 hl (h s.2 hs.2.2).2
    have a2:=up e1.symm hm (h t.2 ht.2.2).1
    have:=H.anti s.2 t.2
    exact H.eq _ _ hs.2.2 ht.2.2 (by omega)
   obtain rfl:s=t:=Prod.ext e1 e2
   congr 1
   refine ih hl.tail hm.tail fun a ha=>?_
   have half:∀{r q:List (α×α)},NF cm V (s::r)→(inS cm a (s::r)→inS cm a (s::q))→inS cm a r→inS cm a q:=by
    intro r q hl h hr
    rcases inS_cons.1 (h (inS_cons.2 (.inr hr))) with k|k
    ·obtain⟨u,hu,k2⟩:=hr
     have h1:=hl.head hu
     have h2:=H.tr s.2 u.1 a (by omega) k2.1
     have:=H.anti a s.2
     omega
    ·exact k
   exact⟨half hl (h a ha).1,half hm (h a ha).2⟩
def stepS(cm:α→α→Int)(c:List (α×α))(s:α×α):List (α×α):=
 match c.getLast? with
 | none=>c++[s]
 | some l=>if cm l.2 s.1<0 then c++[s] else if cm l.2 s.2<0 then c.dropLast++[(l.1,s.2)] else c
def mergeS(cm:α→α→Int)(l:List (α×α)):List (α×α):=l.foldl (stepS cm) []
theorem mergeS_snoc(l:List (α×α))(s:α×α):mergeS cm (l++[s])=stepS cm (mergeS cm l) s:=by unfold mergeS;rw[List.foldl_append];rfl
structure MI(cm:α→α→Int)(V:α→Prop)(P c:List (α×α)):Prop where
 nf:NF cm V c
 mem:∀a,inS cm a c↔inS cm a P
 len:c.length≤P.length
 low:∀l∈c,∃p∈P,l.1=p.1
theorem pw_snoc{β:Type}{R:β→β→Prop}{l:List β}{a:β}:(l++[a]).Pairwise R↔l.Pairwise R∧∀x∈l,R x a:=by
 rw[List.pairwise_append]
 constructor
 ·rintro⟨h1,_,h3⟩;exact⟨h1,fun x hx=>h3 x hx a (by simp)⟩
 ·rintro⟨h1,h2⟩;exact⟨h1,by simp,fun x hx y hy=>by simp at hy;subst hy;exact h2 x hx⟩
theorem MI.step(H:Lin cm V){P c:List (α×α)}{s:α×α}(h:MI cm V P c)(hs:cm s.1 s.2<0∧V s.1∧V s.2)(hlo:∀p∈P,cm p.1 s.1≤0):MI cm V (P++[s]) (stepS cm c s):=by
 rcases List.eq_nil_or_concat c with rfl|⟨d,l,rfl⟩
 ·have e:stepS cm [] s=[s]:=rfl
  rw[e]
  refine⟨⟨fun t ht=>by simp at ht;subst ht;exact hs,by simp⟩,fun a=>?_,by simp,fun t ht=>⟨s,by simp,by simp at ht;rw[ht]⟩⟩
  rw[inS_app]
  exact⟨.inr,fun k=>k.resolve_left fun hp=>inS_nil a ((h.mem a).2 hp)⟩
 ·rw[List.concat_eq_append] at h ⊢
  have hlen:=h.len
  simp only[List.length_append,List.length_cons,List.length_nil] at hlen
  have hl:=h.nf.ne l (by simp)
  obtain⟨hd,hdl⟩:=pw_snoc.1 h.nf.ord
  have hls:cm l.1 s.1≤0:=by
   obtain⟨p,hp,e⟩:=h.low l (by simp)
   rw[e];exact hlo p hp
  have e0:(d++[l]).getLast?=some l:=by simp
  unfold stepS
  rw[e0]
  simp only
  by_cases h1:cm l.2 s.1<0
  ·rw[if_pos h1]
   refine⟨⟨fun t ht=>?_,pw_snoc.2 ⟨h.nf.ord,fun t ht=>?_⟩⟩,fun a=>?_,by simp;omega,fun t ht=>?_⟩
   ·rcases List.mem_append.1 ht with ht|ht
    ·exact h.nf.ne t ht
    ·simp at ht;subst ht;exact hs
   ·rcases List.mem_append.1 ht with ht|ht
    ·have a1:=hdl t ht
     have a2:=H.tr t.2 l.1 l.2 (by omega) (by omega)
     have a3:=H.tr t.2 l.2 s.1 (by omega) (by omega)
     omega
    ·simp at ht;subst ht;exact h1
   ·rw[inS_app (l:=d++[l]),inS_app (l:=P),h.mem]
   ·rcases List.mem_append.1 ht with ht|ht
    ·obtain⟨p,hp,e⟩:=h.low t ht;exact⟨p,by simp[hp],e⟩
    ·simp at ht;subst ht;exact⟨t,by simp,rfl⟩
  ·rw[if_neg h1]
   by_cases h2:cm l.2 s.2<0
   ·rw[if_pos h2,List.dropLast_concat]
    refine⟨⟨fun t ht=>?_,pw_snoc.2 ⟨hd,hdl⟩⟩,fun a=>?_,by simp;omega,fun t ht=>?_⟩
    ·rcases List.mem_append.1 ht with ht|ht
     ·exact h.nf.ne t (by simp[ht])
     ·simp at ht;subst ht
      have:=H.tr l.1 l.2 s.2 (by omega) (by omega)
      exact⟨by show cm l.1 s.2<0;omega,hl.2.1,hs.2.2⟩
    ·rw[inS_app (l:=d),inS_app (l:=P),←h.mem,inS_app (l:=d),or_assoc]
     apply or_congr Iff.rfl
     rw[inS_one,inS_one,inS_one]
     simp only
     constructor
     ·rintro⟨k1,k2⟩
      by_cases k3:cm a l.2<0
      ·exact .inl ⟨k1,k3⟩
      ·have:=H.anti a l.2
       have:=H.anti l.2 s.1
       have:=H.tr s.1 l.2 a (by omega) (by omega)
       exact .inr ⟨by omega,k2⟩
     ·rintro(⟨k1,k2⟩|⟨k1,k2⟩)
      ·have:=H.tr a l.2 s.2 (by omega) (by omega)
       exact⟨k1,by omega⟩
      ·have:=H.tr l.1 s.1 a hls k1
       exact⟨by omega,k2⟩
    ·rcases List.mem_append.1 ht with ht|ht
     ·obtain⟨p,hp,e⟩:=h.low t (by simp[ht]);exact⟨p,by simp[hp],e⟩
     ·simp at ht;subst ht
      obtain⟨p,hp,e⟩:=h.low l (by simp)
      exact⟨p,by simp[hp],e⟩
   ·rw[if_neg h2]
    refine⟨h.nf,fun a=>?_,by simp;omega,fun t ht=>?_⟩
    ·rw[inS_app (l:=P),←h.mem]
     refine⟨.inl,fun k=>k.elim id fun k=>?_⟩
     rw[inS_one] at k
     rw[inS_app,inS_one]
     have:=H.tr l.1 s.1 a hls k.1
     have:=H.anti s.2 l.2
     have:=H.tr a s.2 l.2 (by omega) (by omega)
     exact .inr ⟨by omega,by omega⟩
    ·obtain⟨p,hp,e⟩:=h.low t ht;exact⟨p,by simp[hp],e⟩
theorem mergeS_ok(H:Lin cm V){l:List (α×α)}(hne:∀s∈l,cm s.1 s.2<0∧V s.1∧V s.2)(hs:l.Pairwise fun s t=>cm s.1 t.1≤0):MI cm V l (mergeS cm l):=by
 have key:∀i,i≤l.length→MI cm V (l.take i) (mergeS cm (l.take i)):=by
  intro i
  induction i with
  | zero=>intro _;exact⟨NF.nil,fun a=>Iff.rfl,by simp[mergeS],fun t ht=>by simp[mergeS] at ht⟩
  | succ i ih=>
   intro hi
   have hx:l[i]?=some l[i]:=List.getElem?_eq_getElem (by omega)
   rw[take_snoc' hx,mergeS_snoc]
   refine(ih (by omega)).step H (hne _ (List.getElem_mem _)) fun p hp=>?_
   have h2:(l.take i++[l[i]]).Pairwise fun s t=>cm s.1 t.1≤0:=by
    rw[←take_snoc' hx]
    exact hs.sublist (List.take_sublist _ _)
   exact(pw_snoc.1 h2).2 p hp
 have:=key l.length (qL)
 rwa [List.take_length] at this
theorem stepS_len(c:List (α×α))(s:α×α):(stepS cm c s).length≤c.length+1:=by
 unfold stepS
 split
 ·simp
 ·split
  ·simp
  ·split
   ·simp
   ·omega
theorem mergeS_len(l:List (α×α)):(mergeS cm l).length≤l.length:=by
 have:∀c:List (α×α),(l.foldl (stepS cm) c).length≤c.length+l.length:=by
  induction l with
  | nil=>intro c;simp
  | cons s r ih=>
   intro c
   have h1:=ih (stepS cm c s)
   have h2:=stepS_len (cm:=cm) c s
   simp only[List.foldl_cons,List.length_cons]
   omega
 simpa[mergeS] using this []
structure MeI(cm:α→α→Int)(V:α→Prop)(l m L R c:List (α×α)):Prop where
 nf:NF cm V c
 mem:∀a,(inS cm a l∧inS cm a m)↔(inS cm a c∨(inS cm a L∧inS cm a R))
 up:∀p∈c,(∀s∈L,cm p.2 s.1<0)∨(∀t∈R,cm p.2 t.1<0)
def maxS(cm:α→α→Int)(a b:α):α:=if cm a b<0 then b else a
def minS(cm:α→α→Int)(a b:α):α:=if cm b a<0 then b else a
theorem maxS_le(H:Lin cm V){a b x:α}:cm (maxS cm a b) x≤0↔cm a x≤0∧cm b x≤0:=by
 unfold maxS
 split
 ·rename_i h
  exact⟨fun k=>⟨by have:=H.tr a b x (by omega) k;omega,k⟩,fun k=>k.2⟩
 ·rename_i h
  have:=H.anti a b
  exact⟨fun k=>⟨k,by have:=H.tr b a x (by omega) k;omega⟩,fun k=>k.1⟩
theorem lt_minS(H:Lin cm V){a b x:α}:cm x (minS cm a b)<0↔cm x a<0∧cm x b<0:=by
 unfold minS
 split
 ·rename_i h
  exact⟨fun k=>⟨by have:=H.tr x b a (by omega) (by omega);omega,k⟩,fun k=>k.2⟩
 ·rename_i h
  have:=H.anti b a
  exact⟨fun k=>⟨k,by have:=H.tr x a b (by omega) (by omega);omega⟩,fun k=>k.1⟩
theorem lt_maxS(H:Lin cm V){a b x:α}(h:cm x a<0∨cm x b<0):cm x (maxS cm a b)<0:=by
 unfold maxS
 split
 ·rename_i k
  rcases h with h|h
  ·have:=H.tr x a b (by omega) (by omega);omega
  ·exact h
 ·rename_i k
  have:=H.anti a b
  rcases h with h|h
  ·exact h
  ·have:=H.tr x b a (by omega) (by omega);omega
theorem maxS_V{a b:α}(ha:V a)(hb:V b):V (maxS cm a b):=by unfold maxS;split<;>assumption
theorem minS_V{a b:α}(ha:V a)(hb:V b):V (minS cm a b):=by unfold minS;split<;>assumption
def addS(cm:α→α→Int)(c:List (α×α))(u:α×α):List (α×α):=if cm u.1 u.2<0 then c++[u] else c
theorem inS_addS(H:Lin cm V){c:List (α×α)}{u:α×α}{a:α}:inS cm a (addS cm c u)↔inS cm a c∨(cm u.1 a≤0∧cm a u.2<0):=by
 unfold addS
 split
 ·rw[inS_app,inS_one]
 ·rename_i h
  refine⟨.inl,fun k=>k.elim id fun k=>?_⟩
  have:=H.tr u.1 a u.2 k.1 (by omega)
  omega
theorem MeI.start{l m:List (α×α)}:MeI cm V l m l m []:=⟨NF.nil,fun a=>⟨.inr,fun h=>h.resolve_left (inS_nil a)⟩,fun p hp=>by simp at hp⟩
theorem MeI.add(H:Lin cm V){l m L R c:List (α×α)}{s t:α×α}(h:MeI cm V l m (s::L) (t::R) c)(hl:NF cm V (s::L))(hr:NF cm V (t::R)):
 NF cm V (addS cm c (maxS cm s.1 t.1,minS cm s.2 t.2)):=by
 have hs:=hl.ne s (by simp)
 have ht:=hr.ne t (by simp)
 unfold addS
 split
 ·rename_i hu
  refine⟨fun p hp=>?_,pw_snoc.2 ⟨h.nf.ord,fun p hp=>?_⟩⟩
  ·rcases List.mem_append.1 hp with hp|hp
   ·exact h.nf.ne p hp
   ·simp at hp;subst hp
    exact⟨hu,maxS_V hs.2.1 ht.2.1,minS_V hs.2.2 ht.2.2⟩
  ·rcases h.up p hp with k|k
   ·exact lt_maxS H (.inl (k s (by simp)))
   ·exact lt_maxS H (.inr (k t (by simp)))
 ·exact h.nf
theorem MeI.left(H:Lin cm V){l m L R c:List (α×α)}{s t:α×α}(h:MeI cm V l m (s::L) (t::R) c)(hl:NF cm V (s::L))(hr:NF cm V (t::R))(hlt:cm s.2 t.2<0):
 MeI cm V l m L (t::R) (addS cm c (maxS cm s.1 t.1,minS cm s.2 t.2)):=by
 refine⟨h.add H hl hr,fun a=>?_,fun p hp=>?_⟩
 ·rw[h.mem,inS_addS H,inS_cons,inS_cons]
  simp only
  rw[maxS_le H,lt_minS H]
  constructor
  ·rintro(k|⟨k1|k1,k2⟩)
   ·exact .inl (.inl k)
   ·rcases k2 with k2|⟨u,hu,k2⟩
    ·exact .inl (.inr ⟨⟨k1.1,k2.1⟩,k1.2,k2.2⟩)
    ·have:=hr.head hu
     have:=H.tr s.2 t.2 u.1 (by omega) (by omega)
     have:=H.tr s.2 u.1 a (by omega) k2.1
     have:=H.anti a s.2
     omega
   ·exact .inr ⟨k1,k2⟩
  ·rintro((k|k)|k)
   ·exact .inl k
   ·exact .inr ⟨.inl ⟨k.1.1,k.2.1⟩,.inl ⟨k.1.2,k.2.2⟩⟩
   ·exact .inr ⟨.inr k.1,k.2⟩
 ·unfold addS at hp
  split at hp
  ·rcases List.mem_append.1 hp with hp|hp
   ·rcases h.up p hp with k|k
    ·exact .inl fun u hu=>k u (by simp[hu])
    ·exact .inr k
   ·simp at hp;subst hp
    refine .inl fun u hu=>?_
    have:=hl.head hu
    show cm (minS cm s.2 t.2) u.1<0
    unfold minS
    split
    ·have:=H.anti s.2 t.2;omega
    ·exact this
  ·rcases h.up p hp with k|k
   ·exact .inl fun u hu=>k u (by simp[hu])
   ·exact .inr k
theorem MeI.right(H:Lin cm V){l m L R c:List (α×α)}{s t:α×α}(h:MeI cm V l m (s::L) (t::R) c)(hl:NF cm V (s::L))(hr:NF cm V (t::R))(hlt:¬cm s.2 t.2<0):
 MeI cm V l m (s::L) R (addS cm c (maxS cm s.1 t.1,minS cm s.2 t.2)):=by
 have hts:=H.anti s.2 t.2
 refine⟨h.add H hl hr,fun a=>?_,fun p hp=>?_⟩
 ·rw[h.mem,inS_addS H,inS_cons,inS_cons]
  simp only
  rw[maxS_le H,lt_minS H]
  constructor
  ·rintro(k|⟨k1,k2|k2⟩)
   ·exact .inl (.inl k)
   ·rcases k1 with k1|⟨u,hu,k1⟩
    ·exact .inl (.inr ⟨⟨k1.1,k2.1⟩,k1.2,k2.2⟩)
    ·have:=hl.head hu
     have:=H.tr t.2 s.2 u.1 (by omega) (by omega)
     have:=H.tr t.2 u.1 a (by omega) k1.1
     have:=H.anti a t.2
     omega
   ·exact .inr ⟨k1,k2⟩
  ·rintro((k|k)|k)
   ·exact .inl k
   ·exact .inr ⟨.inl ⟨k.1.1,k.2.1⟩,.inl ⟨k.1.2,k.2.2⟩⟩
   ·exact .inr ⟨k.1,.inr k.2⟩
 ·unfold addS at hp
  split at hp
  ·rcases List.mem_append.1 hp with hp|hp
   ·rcases h.up p hp with k|k
    ·exact .inl k
    ·exact .inr fun u hu=>k u (by simp[hu])
   ·simp at hp;subst hp
    refine .inr fun u hu=>?_
    have:=hr.head hu
    show cm (minS cm s.2 t.2) u.1<0
    unfold minS
    split
    ·exact this
    ·have:=H.tr s.2 t.2 u.1 (by omega) (by omega);omega
  ·rcases h.up p hp with k|k
   ·exact .inl k
   ·exact .inr fun u hu=>k u (by simp[hu])
theorem MeI.done{l m L R c:List (α×α)}(h:MeI cm V l m L R c)(he:L=[]∨R=[]):NF cm V c∧∀a,inS cm a c↔inS cm a l∧inS cm a m:=by
 refine⟨h.nf,fun a=>?_⟩
 rw[h.mem]
 refine⟨.inl,fun k=>k.elim id fun k=>?_⟩
 rcases he with rfl|rfl
 ·exact absurd k.1 (inS_nil a)
 ·exact absurd k.2 (inS_nil a)
end
abbrev Cut:=Val×Bool
def cmB(x y:Bool):Int:=if x=y then 0 else if y then -1 else 1
def cmC(a b:Cut):Int:=lex (cmpV a.1 b.1) (cmB a.2 b.2)
def VC1(a:Cut):Prop:=validV a.1=true
theorem cmB_anti(x y:Bool):cmB y x=-cmB x y:=by cases x<;>cases y<;>decide
theorem cmB_tr(x y z:Bool):TR (cmB x y) (cmB y z) (cmB x z):=by cases x<;>cases y<;>cases z<;>(unfold TR;decide)
theorem cmB_zero{x y:Bool}:cmB x y=0↔x=y:=by cases x<;>cases y<;>decide
theorem validV_parts{x:Val}(h:validV x=true):x.size≤1024∧x.height≤16∧SoundV nameB x:=by
 unfold validV at h
 simp only[Bool.and_eq_true,decide_eq_true_eq] at h
 exact⟨h.1.1,h.1.2,soundB_iff.1 h.2⟩
theorem validV_of{x:Val}(h1:x.size≤1024)(h2:x.height≤16)(h3:SoundV nameB x):validV x=true:=by
 unfold validV
 rw[decide_eq_true h1,decide_eq_true h2,soundB_true h3]
 rfl
theorem lin_cut:Lin cmC VC1:=by
 refine⟨fun x y=>lex_anti (cmpV_anti _ _) (cmB_anti _ _),fun x y z=>TR.lx (cmpV_tr _ _ _) (cmB_tr _ _ _),fun x y hx hy h=>?_⟩
 have h':=lex_zero.1 h
 exact Prod.ext (cmpV_same (nm:=nameB) x.1 y.1 (validV_parts hx).2.2 (validV_parts hy).2.2 h'.1) (cmB_zero.1 h'.2)
def vMin:Val:=.mk 1 0 ByteArray.empty [] []
def vMax:Val:=.mk 11 0 ByteArray.empty [] []
theorem valid_leaf{k:Int}(hk:k=1∨k=11):validV (.mk k 0 ByteArray.empty [] [])=true:=by
 refine validV_of ?_ ?_ ?_
 ·rw[size_parts];unfold Val.parts;rw[if_neg (by show ¬k=6;omega),if_neg (by show ¬k=5;omega)];simp[sizeL]
 ·rw[height_parts];unfold Val.parts;rw[if_neg (by show ¬k=6;omega),if_neg (by show ¬k=5;omega)];simp[heightL]
 ·refine(SoundV_iff _ _).2 ⟨?_,by simp[Val.l],by simp[Val.d],by simp[Val.d,NamesP]⟩
  rcases hk with rfl|rfl<;>simp[HeadP,Val.k,Val.n,Val.t,Val.l,Val.d]
theorem kind_range{x:Val}(h:validV x=true):1≤x.k∧x.k≤11:=by
 have:=((SoundV_iff _ _).1 (validV_parts h).2.2).1
 unfold HeadP at this
 omega
structure Iv where
 lo:Val
 hi:Val
 li:Bool
 hin:Bool
def Iv.sp(x:Iv):Cut×Cut:=((x.lo,!x.li),(x.hi,x.hin))
noncomputable def Iv.ne(x:Iv):Bool:=validV x.lo&&validV x.hi&&decide (cmC x.sp.1 x.sp.2<0)
noncomputable def spansL(l:List Iv):List (Cut×Cut):=(l.filter Iv.ne).map Iv.sp
def ivOf(s:Cut×Cut):Iv:=⟨s.1.1,s.2.1,!s.1.2,s.2.2⟩
theorem sp_ivOf(s:Cut×Cut):(ivOf s).sp=s:=by
 obtain⟨⟨a,b⟩,c,d⟩:=s
 simp[ivOf,Iv.sp]
theorem ivOf_sp(x:Iv):ivOf x.sp=x:=by
 obtain⟨a,b,c,d⟩:=x
 simp[ivOf,Iv.sp]
theorem ne_sp{x:Iv}(h:x.ne=true):cmC x.sp.1 x.sp.2<0∧VC1 x.sp.1∧VC1 x.sp.2:=by
 unfold Iv.ne at h
 simp only[Bool.and_eq_true,decide_eq_true_eq] at h
 exact⟨h.2,h.1.1,h.1.2⟩
theorem ne_of_sp{s:Cut×Cut}(h:cmC s.1 s.2<0∧VC1 s.1∧VC1 s.2):(ivOf s).ne=true:=by
 unfold Iv.ne
 rw[sp_ivOf]
 have h1:validV (ivOf s).lo=true:=h.2.1
 have h2:validV (ivOf s).hi=true:=h.2.2
 rw[h1,h2,decide_eq_true h.1]
 rfl
theorem spansL_ne{l:List Iv}:∀s∈spansL l,cmC s.1 s.2<0∧VC1 s.1∧VC1 s.2:=by
 intro s hs
 obtain⟨x,hx,rfl⟩:=List.mem_map.1 hs
 exact ne_sp (List.mem_filter.1 hx).2
theorem spansL_app(l m:List Iv):spansL (l++m)=spansL l++spansL m:=by simp[spansL]
theorem spansL_snoc(l:List Iv)(x:Iv):spansL (l++[x])=if x.ne then spansL l++[x.sp] else spansL l:=by
 rw[spansL_app]
 cases h:x.ne<;>simp[spansL,h]
theorem spansL_of{n:List (Cut×Cut)}(h:∀s∈n,cmC s.1 s.2<0∧VC1 s.1∧VC1 s.2):spansL (n.map ivOf)=n:=by
 induction n with
 | nil=>rfl
 | cons s r ih=>
  have e:spansL ((s::r).map ivOf)=(ivOf s).sp::spansL (r.map ivOf):=by
   simp[spansL,ne_of_sp (h s (by simp))]
  rw[e,sp_ivOf,ih fun t ht=>h t (by simp[ht])]
def IsNF(S:Cut→Prop)(m:List (Cut×Cut)):Prop:=NF cmC VC1 m∧∀a,inS cmC a m↔S a
theorem IsNF.unique{S T:Cut→Prop}{m n:List (Cut×Cut)}(h:IsNF S m)(k:IsNF T n)(e:∀a,VC1 a→(S a↔T a)):m=n:=
 nf_unique lin_cut h.1 k.1 fun a ha=>by rw[h.2,k.2];exact e a ha
theorem cmC_zero{a b:Cut}(h:cmpV a.1 b.1=0):cmC a b=cmB a.2 b.2:=by unfold cmC lex;rw[if_neg (by simpa using h)]
theorem cmC_ne{a b:Cut}(h:cmpV a.1 b.1≠0):cmC a b=cmpV a.1 b.1:=by unfold cmC lex;rw[if_pos h]
def ptIv(v:Val):Iv:=⟨v,v,true,true⟩
theorem pt_ne(v:Val):(ptIv v).ne=validV v:=by
 unfold Iv.ne
 have:cmC (ptIv v).sp.1 (ptIv v).sp.2<0:=by
  rw[cmC_zero (a:=(ptIv v).sp.1) (b:=(ptIv v).sp.2) (cmpV_self v)]
  show cmB false true<0
  decide
 rw[decide_eq_true this]
 show(validV v&&validV v&&true)=validV v
 cases validV v<;>rfl
theorem valid_min:validV vMin=true:=valid_leaf (.inl rfl)
theorem valid_max:validV vMax=true:=valid_leaf (.inr rfl)
def allIv:Iv:=⟨vMin,vMax,true,true⟩
theorem min_lt_max:cmC (vMin,false) (vMax,true)<0:=by
 rw[cmC_ne (a:=(vMin,false)) (b:=(vMax,true)) (by rw[cmpV_kind (by decide)];decide)]
 show cmpV vMin vMax<0
 rw[cmpV_kind (by decide)];decide
theorem all_nf:IsNF (fun a=>inS cmC a (spansL [allIv])) [((vMin,false),(vMax,true))]:=by
 have hne:allIv.ne=true:=by
  unfold Iv.ne
  rw[decide_eq_true (show cmC allIv.sp.1 allIv.sp.2<0 from min_lt_max)]
  show(validV vMin&&validV vMax&&true)=true
  rw[valid_min,valid_max];rfl
 have e:spansL [allIv]=[((vMin,false),(vMax,true))]:=by unfold spansL;rw[List.filter_cons_of_pos hne];rfl
 refine⟨⟨fun s hs=>?_,by simp⟩,fun a=>by rw[e]⟩
 simp at hs
 subst hs
 exact⟨min_lt_max,valid_min,valid_max⟩
def stripN(s:ByteArray):Nat→Nat
 | 0=>0
 | n+1=>if s.data[n]?=some 255 then stripN s n else n+1
def afterB(s:ByteArray):Option ByteArray:=match stripN s s.size with
 | 0=>none
 | n+1=>some (s.extract 0 n++⟨#[s.data[n]?.getD 0+1]⟩)
theorem stripN_le(s:ByteArray):∀n,stripN s n≤n:=by
 intro n
 induction n with
 | zero=>exact qL
 | succ n ih=>unfold stripN;split<;>omega
def vKd(k:Int):Val:=.mk k 0 ByteArray.empty [] []
def zero12:ByteArray:=⟨#[0,0,0,0,0,0,0,0,0,0,0,0]⟩
def leastV(k:Int):Val:=if k=3 then .mk k (-9223372036854775808) ByteArray.empty [] [] else if k=8 then .mk k 0 zero12 [] [] else vKd k
def rangeI(k:Int):Iv:=
 if k=3∨k=10 then⟨leastV k,.mk k 9223372036854775807 ByteArray.empty [] [],true,true⟩
 else if k=9 then⟨leastV k,.mk k 1 ByteArray.empty [] [],true,true⟩
 else if k=4∨k=5∨k=6∨k=7∨k=8 then⟨leastV k,leastV (k+1),true,false⟩
 else⟨leastV k,leastV k,true,true⟩
def limI(op:Int)(x:Val):Iv:=
 if op=4∨op=5 then⟨x,(rangeI x.k).hi,decide (op=5),(rangeI x.k).hin⟩
 else⟨(rangeI x.k).lo,x,(rangeI x.k).li,decide (op=7)⟩
noncomputable def preI(x:Val):Iv×Bool:=
 match afterB x.t with
 | some s=>if validV (.mk 4 0 s [] [])=true then(⟨x,.mk 4 0 s [] [],true,false⟩,true) else(⟨x,vKd 5,true,false⟩,decide (x.t=ByteArray.empty))
 | none=>(⟨x,vKd 5,true,false⟩,decide (x.t=ByteArray.empty))
noncomputable def leafI(op:Int)(arg:Val)(args:List Val)(n:Int):Option (List Iv×Bool):=
 if op=2 then(if arg.k=6 then none else some ([ptIv arg],decide (arg.k≠2)))
 else if op=4∨op=5∨op=6∨op=7 then(if arg.k=6 then none else some ([limI op arg],decide (arg.k≠2)))
 else if op=8 then(if ∃x∈args,x.k=6 then none else some (args.map ptIv,decide (¬∃x∈args,x.k=2)))
 else if op=16 then some ([(preI arg).1],(preI arg).2)
 else if op=11 then(if n=6 then none else some ([rangeI n],decide (n≠2)))
 else none
def allS:Cut→Prop:=fun a=>inS cmC a (spansL [allIv])
abbrev PSet:=(Cut→Prop)×Bool
noncomputable def leafS(op:Int)(arg:Val)(args:List Val)(n:Int):PSet:=match leafI op arg args n with
 | some r=>(fun a=>inS cmC a (spansL r.1),r.2)
 | none=>(allS,false)
open Classical in
noncomputable def isAllB(S:Cut→Prop):Bool:=decide (∀a,VC1 a→(S a↔allS a))
noncomputable def firstS:List PSet→PSet
 | []=>(allS,false)
 | r::rs=>if isAllB r.1 then firstS rs else(r.1,false)
noncomputable def andS(rs:List PSet):PSet:=match rs with
 | [r]=>r
 | _=>firstS rs
noncomputable def orS(rs:List PSet):PSet:=if rs.any (fun r=>isAllB r.1) then(allS,false) else(fun a=>∃r∈rs,r.1 a,rs.all fun r=>r.2)
noncomputable def ofS(l:List ByteArray):PrT→PSet
 | .mk op path arg args n _ _ _ _ _ _ _ _ kids=>if op=20 then andS (ofSs l kids) else if op=21 then orS (ofSs l kids) else if path.xs=l then leafS op arg.2 (args.xs.map Prod.snd) n else(allS,false)
where ofSs (l:List ByteArray):List PrT→List PSet
 | []=>[]
 | x::r=>ofS l x::ofSs l r
theorem ofSs_map(l:List ByteArray)(ks:List PrT):ofS.ofSs l ks=ks.map (ofS l):=by
 induction ks with
 | nil=>rfl
 | cons x r ih=>simp[ofS.ofSs,ih]
theorem ofS_eq(l:List ByteArray)(p:PrT):ofS l p=if p.op=20 then andS (p.kids.map (ofS l)) else if p.op=21 then orS (p.kids.map (ofS l)) else if p.path.xs=l then leafS p.op p.arg.2 (p.args.xs.map Prod.snd) p.n else(allS,false):=by
 cases p
 simp only[ofS,ofSs_map]
 rfl
theorem ofS_and{l:List ByteArray}{p:PrT}(h:p.op=20):ofS l p=andS (p.kids.map (ofS l)):=by rw[ofS_eq,if_pos h]
theorem ofS_or{l:List ByteArray}{p:PrT}(h:p.op=21):ofS l p=orS (p.kids.map (ofS l)):=by rw[ofS_eq,if_neg (by omega),if_pos h]
theorem ofS_leaf{l:List ByteArray}{p:PrT}(h:p.op≠20)(h':p.op≠21)(hp:p.path.xs=l):ofS l p=leafS p.op p.arg.2 (p.args.xs.map Prod.snd) p.n:=by rw[ofS_eq,if_neg h,if_neg h',if_pos hp]
theorem ofS_else{l:List ByteArray}{p:PrT}(h:p.op≠20)(h':p.op≠21)(hp:p.path.xs≠l):ofS l p=(allS,false):=by rw[ofS_eq,if_neg h,if_neg h',if_neg hp]
def PrT.sz:PrT→Nat
 | .mk _ _ _ args _ _ _ _ _ _ _ _ _ kids=>1+args.n+szL kids
where szL:List PrT→Nat
 | []=>0
 | x::r=>x.sz+szL r
theorem PrT.sz_eq(p:PrT):p.sz=1+p.args.n+PrT.sz.szL p.kids:=by cases p;rfl
theorem szL_ge{l:List PrT}{k:PrT}(h:k∈l):k.sz≤PrT.sz.szL l:=by
 induction l with
 | nil=>cases h
 | cons x r ih=>
  simp only[PrT.sz.szL]
  rcases List.mem_cons.1 h with rfl|h
  ·omega
  ·have:=ih h;omega
theorem szL_take(l:List PrT)(i:Nat){k:PrT}(h:l[i]?=some k):PrT.sz.szL (l.take (i+1))=PrT.sz.szL (l.take i)+k.sz:=by
 induction l generalizing i with
 | nil=>simp at h
 | cons x r ih=>
  cases i with
  | zero=>simp at h;subst h;simp[PrT.sz.szL]
  | succ i=>
   have:=ih i (by simpa using h)
   simp only[List.take_succ_cons,PrT.sz.szL] at*
   omega
theorem szL_take_le(l:List PrT)(i:Nat):PrT.sz.szL (l.take i)≤PrT.sz.szL l:=by
 induction l generalizing i with
 | nil=>simp
 | cons x r ih=>
  cases i with
  | zero=>simp[PrT.sz.szL]
  | succ i=>have:=ih i;simp only[List.take_succ_cons,PrT.sz.szL];omega
theorem sz_le{w:World}:∀{p:PrT},WP w p→p.sz≤p.nodes*1048577:=by
 intro p
 induction p using PrT.ind with
 | h p ih=>
  intro h
  have o:=h.open
  rw[p.sz_eq,p.nodes_eq]
  have key:∀l:List PrT,(∀k∈l,k.sz≤k.nodes*1048577)→PrT.sz.szL l≤PrT.nodes.nodesL l*1048577:=by
   intro l
   induction l with
   | nil=>intro _;simp[PrT.sz.szL]
   | cons x r ihl=>
    intro hl
    have h1:=hl x (by simp)
    have h2:=ihl fun k hk=>hl k (by simp[hk])
    simp only[PrT.sz.szL,PrT.nodes.nodesL,Nat.add_mul]
    omega
  have:=key p.kids fun k hk=>ih k hk (o.kids k hk)
  have:=o.few
  rw[Nat.add_mul]
  omega
def VPr:PrT→Prop
 | .mk op path arg args n _ _ _ _ _ _ _ _ kids=>
  ((2≤op∧op≤7)∨op=16∨op=17∨op=19→validV arg.2=true)∧(op=8∨op=9∨op=14→∀x∈args.xs,validV x.2=true)∧(op=16∨op=17∨op=19→arg.2.k=4)∧(op=11→1≤n∧n≤11)∧
   (op=15∨op=20∨op=21→kids≠[])∧(2≤op∧op≤19→path.xs.length≤16)∧(op≠24→VPs kids)
where VPs:List PrT→Prop
 | []=>True
 | x::r=>VPr x∧VPs r
theorem vps_iff{l:List PrT}:VPr.VPs l↔∀k∈l,VPr k:=by
 induction l with
 | nil=>simp[VPr.VPs]
 | cons y r ih=>simp[VPr.VPs,ih]
structure VPo(p:PrT):Prop where
 argA:(2≤p.op∧p.op≤7)∨p.op=16∨p.op=17∨p.op=19→validV p.arg.2=true
 argsA:p.op=8∨p.op=9∨p.op=14→∀x∈p.args.xs,validV x.2=true
 textA:p.op=16∨p.op=17∨p.op=19→p.arg.2.k=4
 kind:p.op=11→1≤p.n∧p.n≤11
 neA:p.op=15∨p.op=20∨p.op=21→p.kids≠[]
 pathA:2≤p.op∧p.op≤19→p.path.xs.length≤16
 kidsA:p.op≠24→∀k∈p.kids,VPr k
theorem VPo.arg{p:PrT}(h:VPo p)(ho:p.op=2∨p.op=4∨p.op=5∨p.op=6∨p.op=7∨p.op=16):validV p.arg.2=true:=h.argA (by omega)
theorem VPo.ne{p:PrT}(h:VPo p)(ho:p.op=20∨p.op=21):p.kids≠[]:=h.neA (.inr ho)
theorem VPo.kids{p:PrT}(h:VPo p)(ho:p.op=20∨p.op=21):∀k∈p.kids,VPr k:=h.kidsA (by omega)
theorem VPr.open{p:PrT}(h:VPr p):VPo p:=by
 cases p
 obtain⟨h1,h2,h3,h4,h5,h6,h7⟩:=h
 exact⟨h1,h2,h3,h4,h5,h6,fun h=>vps_iff.1 (h7 h)⟩
theorem VPo.shut{p:PrT}(h:VPo p):VPr p:=by
 cases p
 exact⟨h.argA,h.argsA,h.textA,h.kind,h.neA,h.pathA,fun h'=>vps_iff.2 (h.kidsA h')⟩
open Classical in
theorem isAllB_true{S:Cut→Prop}:isAllB S=true↔∀a,VC1 a→(S a↔allS a):=by
 unfold isAllB
 exact decide_eq_true_iff
theorem nf_isAll{S:Cut→Prop}{n:List (Cut×Cut)}(h:IsNF S n):(n=[((vMin,false),(vMax,true))])↔isAllB S=true:=by
 rw[isAllB_true]
 constructor
 ·rintro rfl a _
  rw[←h.2 a]
  exact all_nf.2 a
 ·intro k
  exact h.unique all_nf k
open Go
theorem wpList_mid_w{P:Program}{ops:Array Oper}{rest:List Oper}{op:Oper}{a:Act}{w:World}{Q:Exit→Act→World→Prop}(hw:Region.wanted op (yielded ops a.tmps)=true)(ty:TypeId)(x:Operand)(ho:op.op=.load ty x)(b o:Nat)(hx:a.eval x=.pointer (some ⟨b,o,none⟩))(cs:List Value)(d:TypeDesc)(hc:w.rangeAt b o cs)(hu:P.underlying ty=some d)(hd:d.isRow=true)(hi:(P.info? ty).map (·.size)=some cs.length)(h:wpList P ops Q rest (a.put op.dst (.agg cs.toArray)) w):wpList P ops Q (op::rest) a w:=
 wpList_step fun K hK=>by
  simp only[hw,if_true]
  exact wp_load_mid ty x ho b o hx cs d hc hu hd hi (hK _ _ h)
theorem range_blk{w:World}{g:Nat}{t:TypeId}{cs:Array Value}(h:Blk w g t cs)(l:List Value)(o:Nat)(hl:∀(j:Nat) (v:Value),l[j]?=some v→cs[o+j]?=some v):w.rangeAt g o l:=by
 intro j v hj
 rw[h.cell]
 exact hl j v hj
theorem retb{a b:Bool}(h:a=b):Ending.returned (.bool a)=.returned (.bool b):=by rw[h]
def onPathB(op:Int):Bool:=decide (2≤op)&&decide (op≤19)
def hasTextB(op:Int):Bool:=decide (op=16)||(decide (op=17)||decide (op=19))
def hasArgB(op:Int):Bool:=(decide (2≤op)&&decide (op≤7))||hasTextB op
def hasArgsB(op:Int):Bool:=decide (op=8)||(decide (op=9)||decide (op=14))
def kidsB(p:PrT):Bool:=if p.op=15∨p.op=23 then decide (p.kn=1) else if p.op=20∨p.op=21∨p.op=22 then decide (0<p.kn) else decide (p.kn=0)
def numbersB(p:PrT):Bool:=
 if p.op=10 then decide (p.n=0)||decide (p.n=1) else if p.op=11 then decide (1≤p.n)&&decide (p.n≤11) else if p.op=12 then decide (1≤p.n)&&(decide (0≤p.m)&&decide (p.m<p.n)) else if p.op=13 then decide (0≤p.n) else true
theorem onPath_any(op:Int)(w:World):Calls Tryz.prog 57 #[.int .i64 op] w fun e w'=>e=.returned (.bool (onPathB op))∧w'=w:=by
 go_enter Tryz.func57,Tryz.ntmps57
 go_wp2
 all_goals go_ret
 all_goals refine⟨retb ?_,rfl⟩
 all_goals first|(simp[onPathB, *];done)|(rw[Bool.eq_iff_iff];simp[onPathB, *];done)|(rw[Bool.eq_iff_iff];simp[onPathB, *];omega)|(simp[onPathB, *];omega)|(simp_all[onPathB];done)|(simp_all[onPathB];omega)
theorem hasText_any(op:Int)(w:World):Calls Tryz.prog 75 #[.int .i64 op] w fun e w'=>e=.returned (.bool (hasTextB op))∧w'=w:=by
 go_enter Tryz.func75,Tryz.ntmps75
 go_wp2
 all_goals go_ret
 all_goals refine⟨retb ?_,rfl⟩
 all_goals first|(simp[hasTextB, *];done)|(rw[Bool.eq_iff_iff];simp[hasTextB, *];done)|(rw[Bool.eq_iff_iff];simp[hasTextB, *];omega)|(simp[hasTextB, *];omega)|(simp_all[hasTextB];done)|(simp_all[hasTextB];omega)
theorem hasArgs_any(op:Int)(w:World):Calls Tryz.prog 72 #[.int .i64 op] w fun e w'=>e=.returned (.bool (hasArgsB op))∧w'=w:=by
 go_enter Tryz.func72,Tryz.ntmps72
 go_wp2
 all_goals go_ret
 all_goals refine⟨retb ?_,rfl⟩
 all_goals first|(simp[hasArgsB, *];done)|(rw[Bool.eq_iff_iff];simp[hasArgsB, *];done)|(rw[Bool.eq_iff_iff];simp[hasArgsB, *];omega)|(simp[hasArgsB, *];omega)|(simp_all[hasArgsB];done)|(simp_all[hasArgsB];omega)
theorem hasArg_any(op:Int)(w:World):Calls Tryz.prog 74 #[.int .i64 op] w fun e w'=>e=.returned (.bool (hasArgB op))∧w'=w:=by
 go_enter Tryz.func74,Tryz.ntmps74
 go_wp2_with (go_at_call 75;refine(hasText_any _ _).mono ?_;rintro e w' ⟨rfl,rfl⟩)
 all_goals go_ret
 all_goals refine⟨retb ?_,rfl⟩
 all_goals first|(simp[hasArgB, *];done)|(rw[Bool.eq_iff_iff];simp[hasArgB, *];done)|(rw[Bool.eq_iff_iff];simp[hasArgB, *];omega)|(simp[hasArgB, *];omega)|(simp_all[hasArgB];done)|(simp_all[hasArgB];omega)
theorem kids_any(p:PrT)(w:World):Calls Tryz.prog 71 #[aggPr p] w fun e w'=>e=.returned (.bool (kidsB p))∧Below w.heap.size w w':=by
 by_cases h15:p.op=15
 ·have H15:=qD h15
  go_enter Tryz.func71,Tryz.ntmps71
  go_wp2
  all_goals go_ret
  all_goals refine⟨retb ?_,(Below.refl _ _).alloc (qL) _⟩
  all_goals first|(simp[kidsB,H15.out];done)|(rw[Bool.eq_iff_iff];simp[kidsB,H15.out];done)|(rw[Bool.eq_iff_iff];simp[kidsB,H15.out];omega)|(simp_all[kidsB,H15.out];done)|(simp_all[kidsB,H15.out];omega)
 have H15:=qD h15
 have b15:(p.op==15)=false:=by simpa using h15
 clear h15
 by_cases h23:p.op=23
 ·have H23:=qD h23
  go_enter Tryz.func71,Tryz.ntmps71
  go_wp2
  all_goals go_ret
  all_goals refine⟨retb ?_,(Below.refl _ _).alloc (qL) _⟩
  all_goals first|(simp[kidsB,H15.out,H23.out];done)|(rw[Bool.eq_iff_iff];simp[kidsB,H15.out,H23.out];done)|(rw[Bool.eq_iff_iff];simp[kidsB,H15.out,H23.out];omega)|(simp_all[kidsB,H15.out,H23.out];done)|(simp_all[kidsB,H15.out,H23.out];omega)
 have H23:=qD h23
 have b23:(p.op==23)=false:=by simpa using h23
 clear h23
 by_cases h20:p.op=20
 ·have H20:=qD h20
  go_enter Tryz.func71,Tryz.ntmps71
  go_wp2
  all_goals go_ret
  all_goals refine⟨retb ?_,(Below.refl _ _).alloc (qL) _⟩
  all_goals first|(simp[kidsB,H15.out,H23.out,H20.out];done)|(rw[Bool.eq_iff_iff];simp[kidsB,H15.out,H23.out,H20.out];done)|(rw[Bool.eq_iff_iff];simp[kidsB,H15.out,H23.out,H20.out];omega)|(simp_all[kidsB,H15.out,H23.out,H20.out];done)|(simp_all[kidsB,H15.out,H23.out,H20.out];omega)
 have H20:=qD h20
 have b20:(p.op==20)=false:=by simpa using h20
 clear h20
 by_cases h21:p.op=21
 ·have H21:=qD h21
  go_enter Tryz.func71,Tryz.ntmps71
  go_wp2
  all_goals go_ret
  all_goals refine⟨retb ?_,(Below.refl _ _).alloc (qL) _⟩
  all_goals first|(simp[kidsB,H15.out,H23.out,H20.out,H21.out];done)|(rw[Bool.eq_iff_iff];simp[kidsB,H15.out,H23.out,H20.out,H21.out];done)|(rw[Bool.eq_iff_iff];simp[kidsB,H15.out,H23.out,H20.out,H21.out];omega)|(simp_all[kidsB,H15.out,H23.out,H20.out,H21.out];done)|(simp_all[kidsB,H15.out,H23.out,H20.out,H21.out];omega)
 have H21:=qD h21
 have b21:(p.op==21)=false:=by simpa using h21
 clear h21
 by_cases h22:p.op=22
 ·have H22:=qD h22
  go_enter Tryz.func71,Tryz.ntmps71
  go_wp2
  all_goals go_ret
  all_goals refine⟨retb ?_,(Below.refl _ _).alloc (qL) _⟩
  all_goals first|(simp[kidsB,H15.out,H23.out,H20.out,H21.out,H22.out];done)|(rw[Bool.eq_iff_iff];simp[kidsB,H15.out,H23.out,H20.out,H21.out,H22.out];done)|(rw[Bool.eq_iff_iff];simp[kidsB,H15.out,H23.out,H20.out,H21.out,H22.out];omega)|(simp_all[kidsB,H15.out,H23.out,H20.out,H21.out,H22.out];done)|(simp_all[kidsB,H15.out,H23.out,H20.out,H21.out,H22.out];omega)
 have H22:=qD h22
 have b22:(p.op==22)=false:=by simpa using h22
 clear h22
 go_enter Tryz.func71,Tryz.ntmps71
 go_wp2
 all_goals go_ret
 all_goals refine⟨retb ?_,(Below.refl _ _).alloc (qL) _⟩
 all_goals first|(simp[kidsB,H15.out,H23.out,H20.out,H21.out,H22.out];done)|(rw[Bool.eq_iff_iff];simp[kidsB,H15.out,H23.out,H20.out,H21.out,H22.out];done)|(rw[Bool.eq_iff_iff];simp[kidsB,H15.out,H23.out,H20.out,H21.out,H22.out];omega)|(simp_all[kidsB,H15.out,H23.out,H20.out,H21.out,H22.out];done)|(simp_all[kidsB,H15.out,H23.out,H20.out,H21.out,H22.out];omega)
theorem numbers_any(p:PrT)(w:World):Calls Tryz.prog 73 #[aggPr p] w fun e w'=>e=.returned (.bool (numbersB p))∧Below w.heap.size w w':=by
 by_cases h10:p.op=10
 ·have H10:=qD h10
  go_enter Tryz.func73,Tryz.ntmps73
  go_wp2
  all_goals go_ret
  all_goals refine⟨retb ?_,(Below.refl _ _).alloc (qL) _⟩
  all_goals first|(simp[numbersB,H10.out];done)|(rw[Bool.eq_iff_iff];simp[numbersB,H10.out];done)|(rw[Bool.eq_iff_iff];simp[numbersB,H10.out];omega)|(simp_all[numbersB,H10.out];done)|(simp_all[numbersB,H10.out];omega)
 have H10:=qD h10
 have b10:(p.op==10)=false:=by simpa using h10
 clear h10
 by_cases h11:p.op=11
 ·have H11:=qD h11
  go_enter Tryz.func73,Tryz.ntmps73
  go_wp2
  all_goals go_ret
  all_goals refine⟨retb ?_,(Below.refl _ _).alloc (qL) _⟩
  all_goals first|(simp[numbersB,H10.out,H11.out];done)|(rw[Bool.eq_iff_iff];simp[numbersB,H10.out,H11.out];done)|(rw[Bool.eq_iff_iff];simp[numbersB,H10.out,H11.out];omega)|(simp_all[numbersB,H10.out,H11.out];done)|(simp_all[numbersB,H10.out,H11.out];omega)
 have H11:=qD h11
 have b11:(p.op==11)=false:=by simpa using h11
 clear h11
 by_cases h12:p.op=12
 ·have H12:=qD h12
  go_enter Tryz.func73,Tryz.ntmps73
  go_wp2
  all_goals go_ret
  all_goals refine⟨retb ?_,(Below.refl _ _).alloc (qL) _⟩
  all_goals first|(simp[numbersB,H10.out,H11.out,H12.out];done)|(rw[Bool.eq_iff_iff];simp[numbersB,H10.out,H11.out,H12.out];done)|(rw[Bool.eq_iff_iff];simp[numbersB,H10.out,H11.out,H12.out];omega)|(simp_all[numbersB,H10.out,H11.out,H12.out];done)|(simp_all[numbersB,H10.out,H11.out,H12.out];omega)
 have H12:=qD h12
 have b12:(p.op==12)=false:=by simpa using h12
 clear h12
 by_cases h13:p.op=13
 ·have H13:=qD h13
  go_enter Tryz.func73,Tryz.ntmps73
  go_wp2
  all_goals go_ret
  all_goals refine⟨retb ?_,(Below.refl _ _).alloc (qL) _⟩
  all_goals first|(simp[numbersB,H10.out,H11.out,H12.out,H13.out];done)|(rw[Bool.eq_iff_iff];simp[numbersB,H10.out,H11.out,H12.out,H13.out];done)|(rw[Bool.eq_iff_iff];simp[numbersB,H10.out,H11.out,H12.out,H13.out];omega)|(simp_all[numbersB,H10.out,H11.out,H12.out,H13.out];done)|(simp_all[numbersB,H10.out,H11.out,H12.out,H13.out];omega)
 have H13:=qD h13
 have b13:(p.op==13)=false:=by simpa using h13
 clear h13
 go_enter Tryz.func73,Tryz.ntmps73
 go_wp2
 all_goals go_ret
 all_goals refine⟨retb ?_,(Below.refl _ _).alloc (qL) _⟩
 all_goals first|(simp[numbersB,H10.out,H11.out,H12.out,H13.out];done)|(rw[Bool.eq_iff_iff];simp[numbersB,H10.out,H11.out,H12.out,H13.out];done)|(rw[Bool.eq_iff_iff];simp[numbersB,H10.out,H11.out,H12.out,H13.out];omega)|(simp_all[numbersB,H10.out,H11.out,H12.out,H13.out];done)|(simp_all[numbersB,H10.out,H11.out,H12.out,H13.out];omega)
def AnyB(w:World)(e:Ending)(w':World):Prop:=∃b:Bool,e=.returned (.bool b)∧Below w.heap.size w w'
theorem missing13_any(c:VC)(w:World):Calls Tryz.prog 128 #[c.val] w (AnyB w):=by
 go_enter Tryz.func128,Tryz.ntmps128
 go_wp2
 all_goals go_ret
 all_goals exact⟨_,rfl,(Below.refl _ _).alloc (qL) _⟩
theorem noShape_any(k r:Int)(s:Slc (Int×Int))(w:World):Calls Tryz.prog 129 #[.agg #[.int .i64 k,s.v,.int .i64 r]] w (AnyB w):=by
 go_enter Tryz.func129,Tryz.ntmps129
 go_wp2
 all_goals go_ret
 all_goals exact⟨_,rfl,(Below.refl _ _).alloc (qL) _⟩
theorem range_arg{w:World}{g:Nat}{x:ExT}(h:Blk w g 38 (arrEx x)):w.rangeAt g 4 x.arg.1.list:=
 range_blk h _ _ fun j v hj=>by
  have hl:j<5:=(List.getElem?_eq_some_iff.1 hj).1
  match j,hl,hj with
  | 0,_,hj=>exact hj
  | 1,_,hj=>exact hj
  | 2,_,hj=>exact hj
  | 3,_,hj=>exact hj
  | 4,_,hj=>exact hj
theorem noExpr_any(x:ExT)(w:World):Calls Tryz.prog 130 #[aggEx x] w (AnyB w):=by
 have B0:Hid (Blk (w.alloc (.cells (arrEx x) 38)) w.heap.size 38 (arrEx x)):=Blk.new_at rfl
 have BE:=qD ((Below.refl w.heap.size w).alloc (qL) (Obj.cells (arrEx x) 38))
 have R4:=qD (range_arg B0.out)
 go_enter Tryz.func130,Tryz.ntmps130
 go_wp2_with (first|(refine wpList_mid_w rfl 32 _ rfl w.heap.size 4 rfl _ _ R4.out Tryz.underlying32 rfl (by kernel_rfl) ?_)|(go_at_call 128;refine(missing13_any x.arg.1 _).mono ?_;rintro e w1 ⟨b,rfl,hb⟩;have d9:=(B0.out.step hb).cell 9;have d10:=(B0.out.step hb).cell 10;simp at d9 d10;have BF:=qD (BE.out.step' hb);clear hb;cases b))
 all_goals go_ret
 all_goals first|exact⟨_,rfl,BF.out⟩|exact⟨_,rfl,BE.out⟩
theorem range_parg{w:World}{g:Nat}{p:PrT}(h:Blk w g 41 (arrPr p)):w.rangeAt g 2 p.arg.1.list:=
 range_blk h _ _ fun j v hj=>by
  have hl:j<5:=(List.getElem?_eq_some_iff.1 hj).1
  match j,hl,hj with
  | 0,_,hj=>exact hj
  | 1,_,hj=>exact hj
  | 2,_,hj=>exact hj
  | 3,_,hj=>exact hj
  | 4,_,hj=>exact hj
theorem range_pshape{w:World}{g:Nat}{p:PrT}(h:Blk w g 41 (arrPr p)):w.rangeAt g 10 [.int .i64 p.sk,p.pts.v,.int .i64 p.sr]:=
 range_blk h _ _ fun j v hj=>by
  have hl:j<3:=(List.getElem?_eq_some_iff.1 hj).1
  match j,hl,hj with
  | 0,_,hj=>exact hj
  | 1,_,hj=>exact hj
  | 2,_,hj=>exact hj
theorem range_pex{w:World}{g:Nat}{p:PrT}(h:Blk w g 41 (arrPr p)):w.rangeAt g 13 (recEx p.ex):=
 range_blk h _ _ fun j v hj=>by
  have hl:j<11:=(List.getElem?_eq_some_iff.1 hj).1
  match j,hl,hj with
  | 0,_,hj=>exact hj
  | 1,_,hj=>exact hj
  | 2,_,hj=>exact hj
  | 3,_,hj=>exact hj
  | 4,_,hj=>exact hj
  | 5,_,hj=>exact hj
  | 6,_,hj=>exact hj
  | 7,_,hj=>exact hj
  | 8,_,hj=>exact hj
  | 9,_,hj=>exact hj
  | 10,_,hj=>exact hj
structure PrC(w:World)(g:Nat)(p:PrT):Prop where
 d0:w.cell? ⟨g,0,none⟩=some (.int .i64 p.op)
 d1:w.cell? ⟨g,1,none⟩=some (.slice p.path.A p.path.n p.path.c)
 d2:w.cell? ⟨g,2,none⟩=some (.int .i64 p.arg.1.k)
 d4:w.cell? ⟨g,4,none⟩=some (.string p.arg.1.t)
 d7:w.cell? ⟨g,7,none⟩=some (.slice p.args.A p.args.n p.args.c)
 d8:w.cell? ⟨g,8,none⟩=some (.int .i64 p.n)
 d9:w.cell? ⟨g,9,none⟩=some (.int .i64 p.m)
 d24:w.cell? ⟨g,24,none⟩=some (.slice p.kA p.kn p.kc)
theorem pr_cells{w:World}{g:Nat}{p:PrT}(h:Blk w g 41 (arrPr p)):PrC w g p:=
 ⟨(h.cell 0).trans rfl,(h.cell 1).trans rfl,(h.cell 2).trans rfl,(h.cell 4).trans rfl,(h.cell 7).trans rfl,(h.cell 8).trans rfl,(h.cell 9).trans rfl,(h.cell 24).trans rfl⟩
theorem pr_full{w:World}{g:Nat}{p:PrT}(h:Blk w g 41 (arrPr p)):w.rangeAt g 0 (recPr p):=
 range_blk h _ _ fun j v hj=>by
  rw[Nat.zero_add]
  show(recPr p).toArray[j]?=some v
  rw[List.getElem?_toArray]
  exact hj
structure ExC(w:World)(g:Nat)(x:ExT):Prop where
 d0:w.cell? ⟨g,0,none⟩=some (.int .i64 x.op)
 d1:w.cell? ⟨g,1,none⟩=some (.slice x.path.A x.path.n x.path.c)
 d2:w.cell? ⟨g,2,none⟩=some (.string x.name)
 d3:w.cell? ⟨g,3,none⟩=some (.slice x.names.A x.names.n x.names.c)
 d9:w.cell? ⟨g,9,none⟩=some (.int .i64 x.n)
 d10:w.cell? ⟨g,10,none⟩=some (.slice x.kA x.kn x.kc)
theorem ex_cells{w:World}{g:Nat}{x:ExT}(h:Blk w g 38 (arrEx x)):ExC w g x:=
 ⟨(h.cell 0).trans rfl,(h.cell 1).trans rfl,(h.cell 2).trans rfl,(h.cell 3).trans rfl,(h.cell 9).trans rfl,(h.cell 10).trans rfl⟩
theorem ex_full{w:World}{g:Nat}{x:ExT}(h:Blk w g 38 (arrEx x)):w.rangeAt g 0 (recEx x):=
 range_blk h _ _ fun j v hj=>by
  rw[Nat.zero_add]
  show(recEx x).toArray[j]?=some v
  rw[List.getElem?_toArray]
  exact hj
theorem SR.row{α:Type}{rec:α→List Value}{s:Nat}{w:World}{A:Option Addr}{n c:Nat}{xs:List α}(h:SR s rec w A n c xs){i:Nat}(hi:i<n):
 ∃b off x,A=some ⟨b,off,none⟩∧b<w.heap.size∧xs[i]?=some x∧x∈xs∧w.rangeAt b (off+i*s) (rec x):=by
 obtain⟨b,off,e,hb,hc⟩:=h.el (by omega)
 have hl:i<xs.length:=by have:=h.ln;omega
 have h1:=List.getElem?_eq_getElem hl
 exact⟨b,off,xs[i],e,hb,h1,List.mem_of_getElem? h1,hc i _ h1⟩
theorem range_step{w w':World}{b o:Nat}{l:List Value}(h:w.rangeAt b o l)(hb:Below w.heap.size w w')(hl:b<w.heap.size):w'.rangeAt b o l:=fun j v hj=>(hb.cell (p:=⟨b,o+j,none⟩) hl).trans (h j v hj)
end Go.Proofs.YtfkdihlbaghajaaGreatDoor
