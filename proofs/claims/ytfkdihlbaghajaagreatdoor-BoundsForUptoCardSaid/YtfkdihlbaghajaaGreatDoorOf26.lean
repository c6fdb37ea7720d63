/- Parts of the proof, joined: PrOpen, BoOfLaw. -/
import Derived.Test.YtfkdihlbaghajaaGreatDoorOf1
import Derived.Test.YtfkdihlbaghajaaGreatDoorOf25
import Derived.Test.YtfkdihlbaghajaaGreatDoorRows
import Derived.Test.YtfkdihlbaghajaaGreatDoorOf18
import Derived.Test.YtfkdihlbaghajaaGreatDoorOf3
import Derived.Test.YtfkdihlbaghajaaGreatDoorCards
import Derived.Test.YtfkdihlbaghajaaGreatDoorTie
import Derived.Lib.LaidIn
import Derived.Lib.LaidU8T
import Derived.PinnedBridge
import Derived.Deep.DeepHandedRow
import Derived.Deep.DeepWitnessRowRef
import Derived.ProofKit
import Derived.SizedLaws
import Derived.OpenShut
import Derived.ShutString
import Derived.ChangeOld
import Derived.Below
import Derived.SevenTiedAt
set_option maxRecDepth 100000
set_option maxHeartbeats 16000000
set_option linter.unusedSimpArgs false
namespace Go.Proofs.YtfkdihlbaghajaaGreatDoor
open Go.ChangeShapes Go.WideShapes Go.ChangeAt Go.RowKit Go.Joins Go.Deep
theorem bulk_pos{H:Type}(d:DataW H):1≤Rows.uptoBulk d:=by
 cases d with
 | lit l=>cases l<;>simp[Rows.uptoBulk]
 | _=>simp[Rows.uptoBulk]
theorem bulk_mem{H:Type}{d:DataW H}{l:List (DataW H)}(h:d∈l):Rows.uptoBulk d≤Rows.uptoBulkAll l:=by
 induction l with
 | nil=>cases h
 | cons x r ih=>
  simp only[Rows.uptoBulkAll]
  rcases List.mem_cons.1 h with rfl|h
  ·omega
  ·have:=ih h;omega
theorem bulk_length{H:Type}(l:List (DataW H)):l.length≤Rows.uptoBulkAll l:=by
 induction l with
 | nil=>simp[Rows.uptoBulkAll]
 | cons x r ih=>have:=bulk_pos x;simp only[Rows.uptoBulkAll,List.length_cons];omega
def Fit{H:Type}(t:TypeId)(d:DataW H):Prop:=Light t d∧Rows.uptoBulk d≤1048576
theorem bytes_point:Tryz.prog.bytesOf 157=16:=by kernel_rfl
theorem bytes_expr:Tryz.prog.bytesOf 38=184:=by kernel_rfl
theorem bytes_pred:Tryz.prog.bytesOf 41=400:=by kernel_rfl
theorem cells_point:Tryz.prog.cellsOf 157=2:=by kernel_rfl
theorem cells_expr:Tryz.prog.cellsOf 38=11:=by kernel_rfl
theorem cells_pred:Tryz.prog.cellsOf 41=25:=by kernel_rfl
theorem cells_shape:Tryz.prog.cellsOf 35=3:=by kernel_rfl
theorem cells_points:Tryz.prog.cellsOf 33=1:=by kernel_rfl
theorem cells_exprs:Tryz.prog.cellsOf 36=1:=by kernel_rfl
theorem cells_preds:Tryz.prog.cellsOf 39=1:=by kernel_rfl
section
variable {H:Type} {enc:TypeId×Value→H} {W:World} {base:Nat} {spare:Nat→Bool} {held:Bool}
theorem bulk_sum{H:Type}(l:List (DataW H)):Rows.uptoBulkAll l=(l.map Rows.uptoBulk).sum:=by
 induction l with
 | nil=>simp[Rows.uptoBulkAll]
 | cons x r ih=>simp only[Rows.uptoBulkAll,List.map_cons,List.sum_cons,ih]
theorem sum_map_le{α:Type}{f g:α→Nat}(l:List α)(h:∀a∈l,f a≤g a):(l.map f).sum≤(l.map g).sum:=by
 induction l with
 | nil=>simp
 | cons x r ih=>
  have:=h x (by simp)
  have:=ih fun a ha=>h a (by simp[ha])
  simp only[List.map_cons,List.sum_cons]
  omega
theorem read_rowsB{α:Type}(μ:α→Nat)(rec:α→List Value)(s B:Nat)(hs0:0<s)(hs:∀a,(rec a).length=s)(P:α→Prop)(d0:α){t e:TypeId}(hu:Tryz.prog.underlying t=some (.slice e))(hB:Tryz.prog.bytesOf e=B)(hc:Tryz.prog.cellsOf e=s)(n:Nat){v:Value}{y:DataW H×List MemPlace}(each:∀n',n'<n→∀(cs:List Value) (z:DataW H×List MemPlace),DataW.trod enc Tryz.prog W base spare held n' e cs=some z→Fit e z.1→∃a,cs=rec a∧P a∧μ a≤Rows.uptoBulk z.1)(h:DataW.trod enc Tryz.prog W base spare held n t [v]=some y)(hw:Fit t y.1):
 ∃(A:Option Addr) (ln lc:Nat) (l:List α),v=.slice A ln lc∧SR s rec W A ln lc l∧ln*B≤reach∧ln≤1048576∧(∀a∈l,P a)∧(l.map μ).sum≤Rows.uptoBulk y.1:=by
 rcases DataW.trod_slice hu h with⟨hcs,_⟩|⟨a,len,cap,elems,rest,n',rfl,hcs,rfl,_,hlc,hcm,hel,hat,_,_⟩
 ·simp at hcs
  exact⟨none,0,0,[],hcs,SR.nil,by rw[Nat.zero_mul];exact Nat.zero_le _,Nat.zero_le _,fun a h=>by simp at h,Nat.zero_le _⟩
 ·simp at hcs
  subst hcs
  obtain⟨hl,hk⟩:=hw
  simp only[Light,DataW.weights,hu,List.mem_cons,List.mem_append,hB] at hl
  simp only[Rows.uptoBulk] at hk
  have hsz:len*B≤reach:=by
   have:=hl _ (.inl rfl)
   simp only[List.length_map,hel] at this
   have h2:len*B≤(len+rest.length)*B:=Nat.mul_le_mul_right _ (by omega)
   have:=le_reach
   omega
  have hfew:len≤1048576:=by
   have:=bulk_length (elems.map (·.1))
   simp only[List.length_map,hel] at this
   omega
  have wl:=light_all (l:=elems.map (·.1)) (fun z hz=>hl z (.inr (.inl hz)))
  rcases Nat.eq_zero_or_pos len with h0|hp
  ·subst h0
   exact⟨some a,0,cap,[],rfl,SR.nil,hsz,hfew,fun a h=>by simp at h,Nat.zero_le _⟩
  have step:∀i,i<len→∃cs',W.cells? base (a.add (i*s)) s=some cs'∧∃x,cs'=rec x∧P x∧μ x≤((elems.map fun z=>Rows.uptoBulk z.1)[i]?).getD 0:=by
   intro i hi
   have h1:=hat i hi
   rw[hc,List.getElem?_eq_getElem (by omega)] at h1
   obtain⟨cs',hcs',ht'⟩:=Option.bind_eq_some_iff.1 h1
   have hm : (elems[i]'(by omega)).1 ∈ elems.map (·.1) := List.mem_map_of_mem (List.getElem_mem _)
   have hb:=bulk_mem hm
   obtain⟨x,e1,e2,e3⟩:=each n' (by omega) cs' _ ht' ⟨wl _ hm,by omega⟩
   exact⟨cs',hcs',x,e1,e2,by rw[List.getElem?_map,List.getElem?_eq_getElem (by omega)];exact e3⟩
  obtain⟨cs0,h0,_⟩:=step 0 hp
  obtain⟨b,off,ha,_⟩:=cells_at h0 hs0
  have ha':a=⟨b,off,none⟩:=by simpa[Addr.add] using ha
  subst ha'
  obtain⟨f,hf⟩:=choose_fn (p:=fun i x=>(∀(j:Nat) (u:Value),(rec x)[j]?=some u→W.cell? ⟨b,off+i*s+j,none⟩=some u)∧P x∧μ x≤((elems.map fun z=>Rows.uptoBulk z.1)[i]?).getD 0) d0 len (fun i hi=>by
   obtain⟨cs',hcs',x,rfl,hx⟩:=step i hi
   rw[addr_add] at hcs'
   obtain⟨b',off',ha',hcx⟩:=cells_at hcs' hs0
   injection ha' with e1 e2
   subst e1 e2
   refine⟨x,fun j u hj=>?_,hx⟩
   have hjs:j<s:=by have:=(List.getElem?_eq_some_iff.1 hj).1;rw[hs] at this;exact this
   rw[hcx j hjs]
   exact hj)
  refine⟨_,len,cap,(List.range len).map f,rfl,⟨by simp,hlc,fun _=>⟨b,off,rfl,?_,fun i x hi j u hj=>?_⟩⟩,hsz,hfew,fun x hx=>?_,?_⟩
  ·have hl0:0<(rec (f 0)).length:=by rw[hs];exact hs0
   exact World.block_lt_of_cell? W _ ((hf 0 hp).1 0 _ (List.getElem?_eq_getElem hl0))
  ·have hlt:i<len:=by have:=(List.getElem?_eq_some_iff.1 hi).1;simpa using this
   rw[List.getElem?_map,List.getElem?_range hlt] at hi
   simp only[Option.map_some,Option.some.injEq] at hi
   subst hi
   exact(hf i hlt).1 j u hj
  ·obtain⟨i,hi,rfl⟩:=List.mem_map.1 hx
   exact(hf i (List.mem_range.1 hi)).2.1
  ·have h1:(((List.range len).map f).map μ).sum≤(elems.map fun z=>Rows.uptoBulk z.1).sum:=by
    rw[List.map_map]
    have e:elems.map (fun z=>Rows.uptoBulk z.1)=(List.range len).map fun i=>((elems.map fun z=>Rows.uptoBulk z.1)[i]?).getD 0:=by
     refine List.ext_getElem (by simp[hel]) fun i h1 h2=>?_
     simp at h1
     simp[List.getElem?_eq_getElem h1]
    rw[e]
    exact sum_map_le _ fun i hi=>(hf i (List.mem_range.1 hi)).2.2
   have h2:(elems.map fun z=>Rows.uptoBulk z.1).sum=Rows.uptoBulkAll (elems.map (·.1)):=by
    rw[bulk_sum,List.map_map];rfl
   simp only[Rows.uptoBulk]
   omega
theorem read_rows{α:Type}(rec:α→List Value)(s B:Nat)(hs0:0<s)(hs:∀a,(rec a).length=s)(P:α→Prop)(d0:α){t e:TypeId}(hu:Tryz.prog.underlying t=some (.slice e))(hB:Tryz.prog.bytesOf e=B)(hc:Tryz.prog.cellsOf e=s)(n:Nat){v:Value}{y:DataW H×List MemPlace}(each:∀n',n'<n→∀(cs:List Value) (z:DataW H×List MemPlace),DataW.trod enc Tryz.prog W base spare held n' e cs=some z→Fit e z.1→∃a,cs=rec a∧P a)(h:DataW.trod enc Tryz.prog W base spare held n t [v]=some y)(hw:Fit t y.1):
 ∃(A:Option Addr) (ln lc:Nat) (l:List α),v=.slice A ln lc∧SR s rec W A ln lc l∧ln*B≤reach∧ln≤1048576∧∀a∈l,P a:=by
 obtain⟨A,ln,lc,l,e,h1,h2,h3,h4,_⟩:=read_rowsB (fun _=>0) rec s B hs0 hs P d0 hu hB hc n (fun n' hn cs z h1 h2=>by obtain⟨a,e,k⟩:=each n' hn cs z h1 h2;exact⟨a,e,k,Nat.zero_le _⟩) h hw
 exact⟨A,ln,lc,l,e,h1,h2,h3,h4⟩
theorem read_point(n:Nat)(cs:List Value)(y:DataW H×List MemPlace)(h:DataW.trod enc Tryz.prog W base spare held n 157 cs=some y):∃p:Int×Int,cs=recPt p:=by
 obtain⟨ys,n1,rfl,rfl,hcl,hyl,hf⟩:=DataW.trod_struct Tryz.underlying157 h
 rw[cells_point] at hcl
 obtain⟨v0,v1,rfl⟩:=two hcl
 obtain⟨y0,y1,rfl⟩:=two hyl
 have f0:DataW.trod enc Tryz.prog W base spare held n1 3 [v0]=some y0:=by simpa[cells_int] using hf 0 _ rfl
 have f1:DataW.trod enc Tryz.prog W base spare held n1 3 [v1]=some y1:=by simpa[cells_int] using hf 1 _ rfl
 obtain⟨k,e0,rfl,_⟩:=DataW.trod_int Tryz.underlying3 f0
 obtain⟨m,e1,rfl,_⟩:=DataW.trod_int Tryz.underlying3 f1
 simp only[List.cons.injEq,and_true] at e0 e1
 subst e0 e1
 exact⟨(k,m),rfl⟩
theorem seven_{α:Type}{l:List α}(h:l.length=7):∃a0 a1 a2 a3 a4 a5 a6,l=[a0,a1,a2,a3,a4,a5,a6]:=by
 match l,h with
 | [a0,a1,a2,a3,a4,a5,a6],_=>exact⟨_,_,_,_,_,_,_,rfl⟩
theorem three_{α:Type}{l:List α}(h:l.length=3):∃a0 a1 a2,l=[a0,a1,a2]:=by
 match l,h with
 | [a0,a1,a2],_=>exact⟨_,_,_,rfl⟩
theorem nine_{α:Type}{l:List α}(h:l.length=9):∃a0 a1 a2 a3 a4 a5 a6 a7 a8,l=[a0,a1,a2,a3,a4,a5,a6,a7,a8]:=by
 match l,h with
 | [a0,a1,a2,a3,a4,a5,a6,a7,a8],_=>exact⟨_,_,_,_,_,_,_,_,_,rfl⟩
theorem elevn{α:Type}{l:List α}(h:l.length=11):∃a0 a1 a2 a3 a4 a5 a6 a7 a8 a9 a10,l=[a0,a1,a2,a3,a4,a5,a6,a7,a8,a9,a10]:=by
 match l,h with
 | [a0,a1,a2,a3,a4,a5,a6,a7,a8,a9,a10],_=>exact⟨_,_,_,_,_,_,_,_,_,_,_,rfl⟩
theorem twfive{α:Type}{l:List α}(h:l.length=25):∃a0 a1 a2 a3 a4 a5 a6 a7 a8 a9 b0 b1 b2 b3 b4 b5 b6 b7 b8 b9 c0 c1 c2 c3 c4,l=[a0,a1,a2,a3,a4,a5,a6,a7,a8,a9,b0,b1,b2,b3,b4,b5,b6,b7,b8,b9,c0,c1,c2,c3,c4]:=by
 match l,h with
 | [a0,a1,a2,a3,a4,a5,a6,a7,a8,a9,b0,b1,b2,b3,b4,b5,b6,b7,b8,b9,c0,c1,c2,c3,c4],_=>exact⟨_,_,_,_,_,_,_,_,_,_,_,_,_,_,_,_,_,_,_,_,_,_,_,_,_,rfl⟩
theorem read_expr:∀(fuel:Nat) (cs:List Value) (y:DataW H×List MemPlace),DataW.trod enc Tryz.prog W base spare held fuel 38 cs=some y→Fit 38 y.1→∃x:ExT,cs=recEx x∧WX W x:=by
 intro fuel
 induction fuel using Nat.strongRecOn with
 | _ fuel ih=>
 intro cs y h hw
 obtain⟨ys,n,rfl,rfl,hcl,hyl,hf⟩:=DataW.trod_struct Tryz.underlying38 h
 rw[cells_expr] at hcl
 obtain⟨v0,v1,v2,v3,v4,v5,v6,v7,v8,v9,v10,rfl⟩:=elevn hcl
 obtain⟨y0,y1,y2,y3,y4,y5,y6,rfl⟩:=seven_ hyl
 have f0:DataW.trod enc Tryz.prog W base spare held n 3 [v0]=some y0:=by simpa[cells_int] using hf 0 _ rfl
 have f1:DataW.trod enc Tryz.prog W base spare held n 28 [v1]=some y1:=by simpa[cells_int,cells_texts] using hf 1 _ rfl
 have f2:DataW.trod enc Tryz.prog W base spare held n 9 [v2]=some y2:=by simpa[cells_int,cells_texts,cells_string] using hf 2 _ rfl
 have f3:DataW.trod enc Tryz.prog W base spare held n 28 [v3]=some y3:=by simpa[cells_int,cells_texts,cells_string] using hf 3 _ rfl
 have f4:DataW.trod enc Tryz.prog W base spare held n 32 [v4,v5,v6,v7,v8]=some y4:=by simpa[cells_int,cells_texts,cells_string,cells_value] using hf 4 _ rfl
 have f5:DataW.trod enc Tryz.prog W base spare held n 3 [v9]=some y5:=by simpa[cells_int,cells_texts,cells_string,cells_value] using hf 5 _ rfl
 have f6:DataW.trod enc Tryz.prog W base spare held n 36 [v10]=some y6:=by simpa[cells_int,cells_texts,cells_string,cells_value,cells_exprs] using hf 6 _ rfl
 obtain⟨hl,hk⟩:=hw
 simp only[Light,DataW.weights,Tryz.underlying38,List.map,DataW.weightsEach,List.mem_append] at hl
 simp only[Rows.uptoBulk,List.map,Rows.uptoBulkAll] at hk
 obtain⟨k,e0,rfl,_⟩:=DataW.trod_int Tryz.underlying3 f0
 obtain⟨pA,pn,pc,ps,rfl,hps⟩:=read_texts n f1 (fun z hz=>hl z (.inr (.inl hz)))
 obtain⟨s,e2,e2',_⟩:=DataW.trod_string Tryz.underlying9 f2
 obtain⟨nA,nn,nc,ns,rfl,hns⟩:=read_texts n f3 (fun z hz=>hl z (.inr (.inr (.inr (.inl hz)))))
 obtain⟨c,x,e4,hx⟩:=read_value n _ _ f4 (fun z hz=>hl z (.inr (.inr (.inr (.inr (.inl hz))))))
 obtain⟨m,e5,rfl,_⟩:=DataW.trod_int Tryz.underlying3 f5
 have hsz:s.size≤reach:=Nat.le_trans (hl s.size (.inr (.inr (.inl (by rw[e2'];simp[DataW.weights]))))) le_reach
 obtain⟨kA,kn,kc,ks,rfl,hks,kz,_,hkk⟩:=read_rows recEx 11 184 (by omega) recEx_length (WX W) ExT.zero Tryz.underlying36 bytes_expr cells_expr n (fun n' hn cs z h1 h2=>ih n' (by omega) cs z h1 h2) f6 ⟨fun z hz=>hl z (.inr (.inr (.inr (.inr (.inr (.inr (.inl hz))))))),by omega⟩
 simp only[List.cons.injEq,and_true] at e0 e2 e5
 subst e0 e2 e5
 refine⟨.mk k ⟨pA,pn,pc,ps⟩ s ⟨nA,nn,nc,ns⟩ (c,x) m kA kn kc ks,?_,WXo.shut ⟨hps,hsz,hns,hx,hks,kz,hkk⟩⟩
 simp only[VC.list,List.cons.injEq,and_true] at e4
 obtain⟨a4,a5,a6,a7,a8⟩:=e4
 subst a4 a5 a6 a7 a8
 rfl
theorem sum_ones{α:Type}(l:List α):(l.map fun _=>1).sum=l.length:=by
 induction l with
 | nil=>rfl
 | cons x r ih=>simp only[List.map_cons,List.sum_cons,ih,List.length_cons];omega
theorem szL_sum(l:List PrT):PrT.sz.szL l=(l.map PrT.sz).sum:=by
 induction l with
 | nil=>rfl
 | cons x r ih=>simp only[PrT.sz.szL,List.map_cons,List.sum_cons,ih]
theorem read_predB:∀(fuel:Nat) (cs:List Value) (y:DataW H×List MemPlace),DataW.trod enc Tryz.prog W base spare held fuel 41 cs=some y→Fit 41 y.1→∃p:PrT,cs=recPr p∧(WP W p∧NumsP p)∧p.sz≤Rows.uptoBulk y.1:=by
 intro fuel
 induction fuel using Nat.strongRecOn with
 | _ fuel ih=>
 intro cs y h hw
 obtain⟨ys,n,rfl,rfl,hcl,hyl,hf⟩:=DataW.trod_struct Tryz.underlying41 h
 rw[cells_pred] at hcl
 obtain⟨v0,v1,v2,v3,v4,v5,v6,v7,v8,v9,w0,w1,w2,w3,w4,w5,w6,w7,w8,w9,x0,x1,x2,x3,x4,rfl⟩:=twfive hcl
 obtain⟨y0,y1,y2,y3,y4,y5,y6,y7,y8,rfl⟩:=nine_ hyl
 have hTot:1+Rows.uptoBulk y3.1+Rows.uptoBulk y8.1≤Rows.uptoBulk (DataW.agg (List.map (·.1) [y0,y1,y2,y3,y4,y5,y6,y7,y8])):=by
  simp only[Rows.uptoBulk,List.map,Rows.uptoBulkAll]
  omega
 have f0:DataW.trod enc Tryz.prog W base spare held n 3 [v0]=some y0:=by simpa[cells_int] using hf 0 _ rfl
 have f1:DataW.trod enc Tryz.prog W base spare held n 28 [v1]=some y1:=by simpa[cells_int,cells_texts] using hf 1 _ rfl
 have f2:DataW.trod enc Tryz.prog W base spare held n 32 [v2,v3,v4,v5,v6]=some y2:=by simpa[cells_int,cells_texts,cells_value] using hf 2 _ rfl
 have f3:DataW.trod enc Tryz.prog W base spare held n 29 [v7]=some y3:=by simpa[cells_int,cells_texts,cells_value,cells_list] using hf 3 _ rfl
 have f4:DataW.trod enc Tryz.prog W base spare held n 3 [v8]=some y4:=by simpa[cells_int,cells_texts,cells_value,cells_list] using hf 4 _ rfl
 have f5:DataW.trod enc Tryz.prog W base spare held n 3 [v9]=some y5:=by simpa[cells_int,cells_texts,cells_value,cells_list] using hf 5 _ rfl
 have f6:DataW.trod enc Tryz.prog W base spare held n 35 [w0,w1,w2]=some y6:=by simpa[cells_int,cells_texts,cells_value,cells_list,cells_shape] using hf 6 _ rfl
 have f7:DataW.trod enc Tryz.prog W base spare held n 38 [w3,w4,w5,w6,w7,w8,w9,x0,x1,x2,x3]=some y7:=by simpa[cells_int,cells_texts,cells_value,cells_list,cells_shape,cells_expr] using hf 7 _ rfl
 have f8:DataW.trod enc Tryz.prog W base spare held n 39 [x4]=some y8:=by simpa[cells_int,cells_texts,cells_value,cells_list,cells_shape,cells_expr,cells_preds] using hf 8 _ rfl
 obtain⟨hl,hk⟩:=hw
 simp only[Light,DataW.weights,Tryz.underlying41,List.map,DataW.weightsEach,List.mem_append] at hl
 simp only[Rows.uptoBulk,List.map,Rows.uptoBulkAll] at hk
 obtain⟨k,e0,rfl,_⟩:=DataW.trod_int Tryz.underlying3 f0
 obtain⟨pA,pn,pc,ps,rfl,hps⟩:=read_texts n f1 (fun z hz=>hl z (.inr (.inl hz)))
 obtain⟨c,x,e2,hx,hnx⟩:=nread_value n _ _ f2 (fun z hz=>hl z (.inr (.inr (.inl hz))))
 have hls:Fit 29 y3.1:=⟨fun z hz=>hl z (.inr (.inr (.inr (.inl hz)))),by omega⟩
 obtain⟨aA,an,ac,avs,rfl,has,az,afew,hrv,aB⟩:=read_rowsB (fun _=>1) recV 5 80 (by omega) recV_length (fun p=>RW W p.1 p.2∧NumsV p.2) (VC.zero,Val.zero) Tryz.underlying29 bytes_value cells_value n (fun n' hn cs z h1 h2=>by
  obtain⟨c,x,e,r,m⟩:=nread_value n' cs z h1 h2.1
  exact⟨(c,x),e,⟨r,m⟩,bulk_pos _⟩) f3 hls
 obtain⟨nn,e4,rfl,_⟩:=DataW.trod_int Tryz.underlying3 f4
 obtain⟨mm,e5,rfl,_⟩:=DataW.trod_int Tryz.underlying3 f5
 obtain⟨xe,e7,hxe⟩:=read_expr n _ _ f7 ⟨fun z hz=>hl z (.inr (.inr (.inr (.inr (.inr (.inr (.inr (.inl hz)))))))),by omega⟩
 obtain⟨kA,kn,kc,ks,rfl,hks,kz,_,hkk,kB⟩:=read_rowsB PrT.sz recPr 25 400 (by omega) recPr_length (fun k=>WP W k∧NumsP k) (.mk 0 .nil (VC.zero,Val.zero) .nil 0 0 0 .nil 0 ExT.zero none 0 0 []) Tryz.underlying39 bytes_pred cells_pred n (fun n' hn cs z h1 h2=>ih n' (by omega) cs z h1 h2) f8 ⟨fun z hz=>hl z (.inr (.inr (.inr (.inr (.inr (.inr (.inr (.inr (.inl hz))))))))),by omega⟩
 have hsh:Fit 35 y6.1:=⟨fun z hz=>hl z (.inr (.inr (.inr (.inr (.inr (.inr (.inl hz))))))),by omega⟩
 clear hl hk
 obtain⟨ys6,n6,rfl,rfl,hcl6,hyl6,hf6⟩:=DataW.trod_struct Tryz.underlying35 f6
 obtain⟨z0,z1,z2,rfl⟩:=three_ hyl6
 have g0:DataW.trod enc Tryz.prog W base spare held n6 3 [w0]=some z0:=by simpa[cells_int] using hf6 0 _ rfl
 have g1:DataW.trod enc Tryz.prog W base spare held n6 33 [w1]=some z1:=by simpa[cells_int,cells_points] using hf6 1 _ rfl
 have g2:DataW.trod enc Tryz.prog W base spare held n6 3 [w2]=some z2:=by simpa[cells_int,cells_points] using hf6 2 _ rfl
 obtain⟨hl6,hk6⟩:=hsh
 simp only[Light,DataW.weights,Tryz.underlying35,List.map,DataW.weightsEach,List.mem_append] at hl6
 simp only[Rows.uptoBulk,List.map,Rows.uptoBulkAll] at hk6
 obtain⟨sk,d0,rfl,_⟩:=DataW.trod_int Tryz.underlying3 g0
 obtain⟨sA,sn,sc,ss,rfl,hss,sz,_,_⟩:=read_rows recPt 2 16 (by omega) recPt_length (fun _=>True) (0,0) Tryz.underlying33 bytes_point cells_point n6 (fun n' hn cs z h1 h2=>by
  obtain⟨p,e⟩:=read_point n' cs z h1
  exact⟨p,e,trivial⟩) g1 ⟨fun z hz=>hl6 z (.inr (.inl hz)),by omega⟩
 obtain⟨sr,d2,rfl,_⟩:=DataW.trod_int Tryz.underlying3 g2
 simp only[List.cons.injEq,and_true] at e0 e4 e5 d0 d2
 subst e0 e4 e5 d0 d2
 have hblk:0<an→∃b off,aA=some ⟨b,off,none⟩∧Ft (fun _=>True) W b:=fun hn=>by
  obtain⟨b,off,e,_,_⟩:=has.el hn
  exact⟨b,off,e,Ft.top⟩
 refine⟨.mk k ⟨pA,pn,pc,ps⟩ (c,x) ⟨aA,an,ac,avs⟩ nn mm sk ⟨sA,sn,sc,ss⟩ sr xe kA kn kc ks,?_,⟨WPo.shut ⟨hps,hx,⟨has,az,hblk,fun p hp=>(hrv p hp).1⟩,afew,hss,sz,hxe,hks,kz,fun k hk=>(hkk k hk).1⟩,(NumsP_iff _).2 ⟨hnx,fun x hx=>(hrv x hx).2,fun k hk=>(hkk k hk).2⟩⟩,?_⟩
 rotate_left
 ·rw[PrT.sz_eq,szL_sum]
  refine Nat.le_trans ?_ hTot
  have e:(avs.map fun _=>1).sum=an:=(sum_ones avs).trans has.ln.symm
  rw[e] at aB
  show 1+an+(ks.map PrT.sz).sum≤_
  omega
 simp only[VC.list,List.cons.injEq,and_true] at e2
 obtain⟨a4,a5,a6,a7,a8⟩:=e2
 subst a4 a5 a6 a7 a8
 simp only[recEx,List.cons.injEq,and_true] at e7
 obtain⟨b0,b1,b2,b3,b4,b5,b6,b7,b8,b9,b10⟩:=e7
 subst b0 b1 b2 b3 b4 b5 b6 b7 b8 b9 b10
 rfl
theorem read_pred(fuel:Nat)(cs:List Value)(y:DataW H×List MemPlace)(h:DataW.trod enc Tryz.prog W base spare held fuel 41 cs=some y)(hw:Fit 41 y.1):∃p:PrT,cs=recPr p∧WP W p∧NumsP p:=by
 obtain⟨p,e,k,_⟩:=read_predB fuel cs y h hw
 exact⟨p,e,k⟩
theorem open_pred{r:Reach}{b0:Nat}{v:Value}{d:DataW H}{p:List MemPlace}(hv:Value.okWide Tryz.prog W r b0 41 v)(h:DataW.Trod enc Tryz.prog W base spare held 41 v d p)(hw:Fit 41 d):∃q:PrT,v=aggPr q∧WP W q∧NumsP q:=by
 obtain⟨cs,rfl,hsz⟩:=okWide_struct Tryz.underlying41 hv
 obtain⟨fuel,hf⟩:=h
 obtain⟨q,hc,hx,hn⟩:=read_pred fuel _ _ hf hw
 refine⟨q,?_,hx,hn⟩
 obtain⟨l⟩:=cs
 simp only[Value.cells] at hc
 rw[show l=recPr q from hc]
 rfl
end
end Go.Proofs.YtfkdihlbaghajaaGreatDoor
namespace Go.Proofs.YtfkdihlbaghajaaGreatDoor.boundsOf
open Go Go.Shelf Go.ChangeShapes Go.WideShapes Go.ChangeAt Go.RowKit Go.Lib
set_option linter.unusedVariables false
theorem own:ownKnob Tryz.prog.godebug=none:=by kernel_rfl
theorem laidOut:laidOutB Tryz.prog=true:=by kernel_rfl
theorem accept_eq:Rows.laid_unicode_utf8_acceptRanges=Lib.acceptData:=by kernel_rfl
theorem first_eq:Rows.laid_unicode_utf8_first=Lib.firstData:=Go.Pinned.utf8First_eq
noncomputable def laidWorld(os:Os):World:=
 let w0:=World.holding Tryz.prog os ⟨#[],#[],[]⟩
 let put (h:Array Obj) (g:Nat) (cs:Array Value):Array Obj:=h.modify g fun
  | .cells _ t frozen=>.cells cs t frozen
  | o=>o
 let h1:=put w0.heap 2 (Lib.firstTab.map fun z=>Value.int .u8 z).toArray
 let h2:=put h1 3 ((List.range 16).flatMap fun i=>[Value.int .u8 (Lib.accLo i),Value.int .u8 (Lib.accHi i)]).toArray
 let h3:=put h2 1 (strsOf Rows.laid_docstore_expr_names)
 let h4:=put h3 0 (strsOf Rows.laid_docstore_predicate_names)
 {w0 with heap:=h4}
theorem laid_met(os:Os)(args:Array Value):laidMet Tryz.prog Rows.boundsOfUptoRow.laid ((laidWorld os).forCall (fun _ _=>0) ⟨#[],args,[]⟩).memory:=
 (LaidIn.of_run (l := [("unicode/utf8.acceptRanges", Rows.laid_unicode_utf8_acceptRanges), ("docstore/expr.names", Rows.laid_docstore_expr_names), ("docstore/predicate.names", Rows.laid_docstore_predicate_names), ("unicode/utf8.first", Rows.laid_unicode_utf8_first)]) [3, 1, 0, 2] 8 (by kernel_rfl) (by kernel_rfl) (by kernel_rfl) (by kernel_rfl)).met
theorem witness_row(os:Os){H:Type}(enc:TypeId×Value→H):
 (Rows.OpenSpec.upto Rows.boundsOfSpec).preRow enc Tryz.prog Tryz.f4 Rows.boundsOfUptoRow.domain false Rows.boundsOfUptoRow.laid ((laidWorld os).forCall (fun _ _=>0) ⟨#[],#[.agg #[.int .i64 0,.slice none 0 0,.int .i64 0,.int .i64 0,.string ⟨#[]⟩,.slice none 0 0,.slice none 0 0,.slice none 0 0,.int .i64 0,.int .i64 0,.int .i64 0,.slice none 0 0,.int .i64 0,.int .i64 0,.slice none 0 0,.string ⟨#[]⟩,.slice none 0 0,.int .i64 0,.int .i64 0,.string ⟨#[]⟩,.slice none 0 0,.slice none 0 0,.int .i64 0,.slice none 0 0,.slice none 0 0],.slice none 0 0],[]⟩).memory #[.agg #[.int .i64 0,.slice none 0 0,.int .i64 0,.int .i64 0,.string ⟨#[]⟩,.slice none 0 0,.slice none 0 0,.slice none 0 0,.int .i64 0,.int .i64 0,.int .i64 0,.slice none 0 0,.int .i64 0,.int .i64 0,.slice none 0 0,.string ⟨#[]⟩,.slice none 0 0,.int .i64 0,.int .i64 0,.string ⟨#[]⟩,.slice none 0 0,.slice none 0 0,.int .i64 0,.slice none 0 0,.slice none 0 0],.slice none 0 0]:=by
 have hw:(DataW.whole enc Tryz.prog ((laidWorld os).forCall (fun _ _=>0) ⟨#[],#[.agg #[.int .i64 0,.slice none 0 0,.int .i64 0,.int .i64 0,.string ⟨#[]⟩,.slice none 0 0,.slice none 0 0,.slice none 0 0,.int .i64 0,.int .i64 0,.int .i64 0,.slice none 0 0,.int .i64 0,.int .i64 0,.slice none 0 0,.string ⟨#[]⟩,.slice none 0 0,.int .i64 0,.int .i64 0,.string ⟨#[]⟩,.slice none 0 0,.slice none 0 0,.int .i64 0,.slice none 0 0,.slice none 0 0],.slice none 0 0],[]⟩).memory Tryz.f4.params.toList (Rows.OpenSpec.upto Rows.boundsOfSpec).vars false (#[.agg #[.int .i64 0,.slice none 0 0,.int .i64 0,.int .i64 0,.string ⟨#[]⟩,.slice none 0 0,.slice none 0 0,.slice none 0 0,.int .i64 0,.int .i64 0,.int .i64 0,.slice none 0 0,.int .i64 0,.int .i64 0,.slice none 0 0,.string ⟨#[]⟩,.slice none 0 0,.int .i64 0,.int .i64 0,.string ⟨#[]⟩,.slice none 0 0,.slice none 0 0,.int .i64 0,.slice none 0 0,.slice none 0 0],.slice none 0 0]:Array Value).toList 8).map (fun x=>(x.1,x.2.1))=
  some ([.agg [.lit (.int .i64 0),.nil,.agg [.lit (.int .i64 0),.lit (.int .i64 0),.lit (.string []),.nil,.nil],.nil,.lit (.int .i64 0),.lit (.int .i64 0),.agg [.lit (.int .i64 0),.nil,.lit (.int .i64 0)],.agg [.lit (.int .i64 0),.nil,.lit (.string []),.nil,.agg [.lit (.int .i64 0),.lit (.int .i64 0),.lit (.string []),.nil,.nil],.lit (.int .i64 0),.nil],.nil],.nil],[]):=by kernel_rfl
 obtain⟨⟨x1,x2,x3⟩,hx,hx1⟩:=Option.map_eq_some_iff.1 hw
 simp only[Prod.mk.injEq] at hx1
 obtain⟨rfl,rfl⟩:=hx1
 exact OpenSpec.preRow_of_cond 8 hx (by kernel_rfl) (fun k hk=>by cases hk;kernel_rfl) (by kernel_rfl) (laid_met os _)
theorem lifted(os:Os)(started:os.Started)(H:Type)(enc:TypeId×Value→H)(F0:Stop.Interp):
 ReturnsInHanded {} Tryz.checked os 4 .any ((Rows.OpenSpec.upto Rows.boundsOfSpec).preRow enc Tryz.prog Tryz.f4 Rows.boundsOfUptoRow.domain false Rows.boundsOfUptoRow.laid) (((Rows.OpenSpec.upto Rows.boundsOfSpec).at F0).post enc Tryz.prog Tryz.f4 false true false false):=by
 refine returnsInHanded_of_row (C:=Tryz.checked) (s:=Rows.OpenSpec.upto Rows.boundsOfSpec) own started (by kernel_rfl) Tryz.func4
  (witness_row_atRef (enc:=enc) (C:=Tryz.checked) false (laidWorld os) #[.agg #[.int .i64 0,.slice none 0 0,.int .i64 0,.int .i64 0,.string ⟨#[]⟩,.slice none 0 0,.slice none 0 0,.slice none 0 0,.int .i64 0,.int .i64 0,.int .i64 0,.slice none 0 0,.int .i64 0,.int .i64 0,.slice none 0 0,.string ⟨#[]⟩,.slice none 0 0,.int .i64 0,.int .i64 0,.string ⟨#[]⟩,.slice none 0 0,.slice none 0 0,.int .i64 0,.slice none 0 0,.slice none 0 0],.slice none 0 0] rfl (by kernel_rfl) (by kernel_rfl) (by kernel_rfl) (witness_row os enc)) ?_
 intro W base args ds gs before hval0 hW hq1 hq2 hwt hL hq5 hq6
 have hval:∀(j:Nat) t v,Tryz.f4.params[j]?=some t→args[j]?=some v→Value.okWide Tryz.prog W .any base t v:=hval0
 have hW':=hW
 obtain⟨p,q,hA0,hV,rfl,hfz,hnd⟩:=hW
 have hA:DataW.TrodAll enc Tryz.prog W 0 (fun _=>true) true Tryz.f4.params.toList args.toList ds p:=hA0
 rw[Tryz.params4] at hA hval hwt
 obtain⟨v0,vs0,d0,ds0,p0,q0,hargs,rfl,rfl,h0,r0⟩:=trodAll_cons hA
 obtain⟨v1,vs1,d1,ds1,p1,q1,rfl,rfl,rfl,h1,r1⟩:=trodAll_cons r0
 obtain⟨rfl,rfl,rfl⟩:=trodAll_nil r1
 obtain rfl:args=#[v0,v1]:=by cases args;simp_all
 obtain⟨rfl,rfl⟩:=trodVars_none hV
 obtain⟨hlt0,hwt0⟩:=light_each hwt
 obtain⟨hlt1,hwt1⟩:=light_each hwt0
 have hk9:=of_decide_eq_true (hq2 _ rfl)
 simp only[List.append_nil,Rows.uptoBulkAll] at hk9
 have bulk0:Rows.uptoBulk d0≤1048576:=by omega
 have bulk1:Rows.uptoBulk d1≤1048576:=by omega
 have trd0:=h0
 have lt0:∀x∈p0,x.block<W.heap.size:=by obtain⟨m,hm⟩:=trd0;exact DataW.trod_lt m _ _ _ hm
 obtain⟨q0,rfl,o0,m0⟩:=open_pred (hval 0 41 v0 rfl rfl) h0 ⟨hlt0,bulk0⟩
 have trd1:=h1
 have lt1:∀x∈p1,x.block<W.heap.size:=by obtain⟨m,hm⟩:=trd1;exact DataW.trod_lt m _ _ _ hm
 obtain⟨A1,n1,k1,xs1,rfl,o1⟩:=open_texts (hval 1 28 v1 rfl rfl) h1 hlt1
 clear hA0 hval0
 have htab:Tabs W:=by
  have r1:=Lib.laidMet.reads hL (.tail _ (.tail _ (.tail _ (.head _))))
  have r2:=Lib.laidMet.reads hL (.head _)
  rw[first_eq] at r1
  rw[accept_eq] at r2
  exact utf8Tabs_of_readsT (U8Types.of196 laysValid) ⟨by kernel_rfl,by kernel_rfl,by kernel_rfl,by kernel_rfl,by kernel_rfl,by kernel_rfl,by kernel_rfl⟩ r1 r2
 have hnmt:NmT W:=nm_tab (Lib.laidMet.reads hL (.tail _ (.tail _ (.head _))))
 refine(boundsOf_walk q0 A1 n1 k1 xs1 W htab hnmt o0 o1).mono fun e W' ⟨he,bel⟩=>?_
 subst he
 exact⟨_,rfl,_,_,_,[],_,[],hW',trodAll_mk1 (shut_bool Tryz.underlying4 _),(trodAll_cons_mk (Below.trod laidOut (by kernel_rfl) (of_decide_eq_true (by kernel_rfl)) trd0 bel lt0) (trodAll_cons_mk (Below.trod laidOut (by kernel_rfl) (of_decide_eq_true (by kernel_rfl)) trd1 bel lt1) trodAll_mk0)),rfl,bel.frame _,fun h=>by cases h⟩
theorem over:Rows.BoundsOfUptoSaid:=
 OpenClaim.holds_of_cond 4 Tryz.f4 rfl rfl rfl rfl rfl rfl rfl ⟨rfl,rfl,rfl,rfl,rfl⟩ rfl rfl rfl rfl rfl (by kernel_rfl) Tryz.func4 (by kernel_rfl)
  (of_decide_eq_true (by kernel_rfl)) (by unfold Func.isWrapper;first|(rw[if_pos (by decide+kernel)];kernel_rfl)|(rw[if_neg (by decide+kernel)];exact⟨rfl,rfl⟩))
  (fun os started H enc _ F0=>by rw[OpenClaim.pre_eq_preRow];exact lifted os started H enc F0)
theorem proved:Rows.BoundsOfUptoCardSaid:=
 Claim7.holds_tied_plain_at .later [] [.data, .data, .data, .pinned] true (true, "4c33ef7404093d801bf132aeb2fa5003bcfb2bab851189be6c0bb6bdcb16b118") false
  over (fun _ h=>by cases h) (by kernel_rfl) (fun _ h=>by cases h) boundsOfUpto_row_tie rfl ⟨rfl,rfl⟩ (by kernel_rfl) rfl
  (fun f fn hf hfn=>by
    obtain rfl : f = 4 := Option.some.inj ((show Tryz.prog.funcNamed "docstore/docstorelaw25.BoundsOf" = some 4 by kernel_rfl).symm.trans hf) |>.symm
    obtain rfl:fn=Tryz.f4:=(Option.some.inj (Tryz.func4.symm.trans hfn)).symm
    exact⟨by kernel_rfl,fun j t ht=>by
     rw[Tryz.params4] at ht
     have h3:t=41∨t=28:=by
      rcases j with _|j
      ·exact .inl (by simpa using ht.symm)
      rcases j with _|j
      ·exact .inr (by simpa using ht.symm)
      ·simp at ht
     rcases h3 with rfl|rfl
     ·exact(show Tryz.prog.wantsStandIn 41=false by kernel_rfl)
     ·exact(show Tryz.prog.wantsStandIn 28=false by kernel_rfl)⟩)
  (by kernel_rfl)
#print axioms proved
end Go.Proofs.YtfkdihlbaghajaaGreatDoor.boundsOf
