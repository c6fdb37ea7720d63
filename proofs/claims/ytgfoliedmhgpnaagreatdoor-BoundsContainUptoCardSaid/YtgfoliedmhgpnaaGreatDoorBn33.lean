/- A part of the proof. -/
import Derived.Test.YtgfoliedmhgpnaaGreatDoorBn32
set_option maxRecDepth 100000
set_option maxHeartbeats 16000000
set_option linter.unusedSimpArgs false
open Go.Proofs.Tryz
open ByteArray (empty)
namespace Go.Proofs.YtgfoliedmhgpnaaGreatDoor
open Go.ChangeShapes Go.WideShapes Go.ChangeAt Go.RowKit Go.Joins Go.Deep
section
variable {l r:List ByteArray} {b c i g n off B b0 q ln lc base size b2:Nat} {a x y d:Int} {s:ByteArray} {W:World} {A LA:Option Addr} {e t:TypeId} {cs:Array Value} {P:Program} {v:Value}
theorem Ea{n:Int}(h:(Lit.int .i64 n).wf=true):il n:=by
 have h:(decide (IntKind.i64.min<=n)&&decide (n<=IntKind.i64.max))=true:=h;simp only[Kz,MD] at h;exact h
section
variable {H:Type} {enc:TypeId×Value->H} {W:World} {base:Nat} {spare:Nat->Bool} {held:Bool}
def DD(H:Type)(enc:TypeId×Value->H)(W:World)(base:Nat)(spare:Nat->Bool)(held:Bool)(n:Nat):Prop:=
 ∀(cs:List Value) (y:DataW H×List MemPlace),DataW.trod enc prog W base spare held n 29 cs=some y->ce 29 y.1->∃c x,cs=c.list/\RW W c x/\cO x
theorem xv(n:Nat){v:Value}{y:DataW H×List MemPlace}(ih:∀n',n'<n->DD H enc W base spare held n')(h:DataW.trod enc prog W base spare held n 26 [v]=some y)(hw:ce 26 y.1):
 ∃(LA:Option Addr) (ln lc:Nat) (l:List aC),v=.slice LA ln lc/\ln=l.length/\ln<=lc/\ln*80<=aH/\(0<ln->∃b off,LA=some ⟨b,off,none⟩/\∀(i:Nat) (y:aC),l[i]?=some y->∃e,aS W b (off+i*5) e/\RW W e y)/\∀y∈l,cO y:=by
 rcases Ml Kv h with⟨hcs,_⟩|⟨a,len,cap,elems,rest,n',rfl,hcs,rfl,_,hlc,hcm,hel,hat,_,_⟩
 ·simp at hcs;exact⟨none,0,0,[],hcs,rfl,qL,by decide,fun h=>absurd h (by omega),by simp⟩
 ·simp at hcs;subst hcs;simp only[ce,DataW.weights,Kv,LG,KI,kj] at hw
  have hsz:len*80<=aH:=by
   have:=hw _ (.inl rfl);simp only[KX,hel] at this;have h2:len*80<=(len+rest.length)*80:=Ki _ (by omega);have:=du;omega
  have wl:=gq (l:=elems.map (·.1)) (fun z hz=>hw z (.inr (.inl hz)));rcases LH len with h0|hp
  ·exact⟨some a,len,cap,[],rfl,h0,hlc,hsz,fun h=>absurd h (by omega),by simp⟩
  have step:∀i,i<len->∃cs',W.cells? base (a.add (i*5)) 5=some cs'/\∃e x,cs'=VC.list e/\RW W e x/\cO x:=by
   intro i hi;have h1:=hat i hi;rw[bK,Jv (by omega)] at h1;obtain⟨cs',hcs',ht'⟩:=MC.1 h1;exact⟨cs',hcs',ih n' (by omega) cs' _ ht' (wl _ (Ko (MB _)))⟩
  obtain⟨cs0,h0,_⟩:=step 0 hp;obtain⟨b,off,ha,_⟩:=dz h0 (by omega);have ha':a=⟨b,off,none⟩:=by simpa[Addr.add] using ha
  subst ha'
  obtain⟨f,hf⟩:=gr (p:=fun i x=>(∃e,aS W b (off+i*5) e/\RW W e x)/\cO x) aC.zero len (fun i hi=>by
   obtain⟨cs',hcs',e,x,rfl,hx,hnx⟩:=step i hi
   rw[dM] at hcs'
   obtain⟨b',off',ha',hc⟩:=dz hcs' (by omega)
   injection ha' with e1 e2
   subst e1 e2
   exact⟨x,⟨e,⟨hc 0 (by omega),hc 1 (by omega),hc 2 (by omega),hc 3 (by omega),hc 4 (by omega)⟩,hx⟩,hnx⟩)
  refine⟨_,len,cap,(List.range len).map f,rfl,by simp,hlc,hsz,fun _=>⟨b,off,rfl,fun i y hi=>?_⟩,fun y hy=>(by obtain⟨i,hi,rfl⟩:=LL.1 hy;exact(hf i (Ni.1 hi)).2)⟩;have hlt:i<len:=by have:=(KF.1 hi).1;simpa using this
  rw[KP,MM hlt] at hi;simp only[Ls,LS] at hi;subst hi;exact(hf i hlt).1
theorem AU(n:Nat){v:Value}{y:DataW H×List MemPlace}(ih:∀n',n'<n->DD H enc W base spare held n')(h:DataW.trod enc prog W base spare held n 27 [v]=some y)(hw:ce 27 y.1):
 ∃(DA:Option Addr) (dn dc:Nat) (d:List cF),v=.slice DA dn dc/\dn=d.length/\dn<=dc/\dn*96<=jh/\(0<dn->∃b off,DA=some ⟨b,off,none⟩/\∀(i:Nat) (f:cF),d[i]?=some f->W.cell? ⟨b,off+i*6,none⟩=some (.string f.s)/\f.s.size<=aH/\∃e,aS W b (off+i*6+1) e/\RW W e f.v)/\∀f∈d,cO f.v:=by
 rcases Ml ME h with⟨hcs,_⟩|⟨a,len,cap,elems,rest,n',rfl,hcs,rfl,_,hlc,hcm,hel,hat,_,_⟩
 ·simp at hcs;exact⟨none,0,0,[],hcs,rfl,qL,by decide,fun h=>absurd h (by omega),by simp⟩
 ·simp at hcs;subst hcs;simp only[ce,DataW.weights,ME,LG,KI,oL] at hw
  have hsz:len*96<=jh:=by
   have:=hw _ (.inl rfl);simp only[KX,hel] at this;have h2:len*96<=(len+rest.length)*96:=Ki _ (by omega);omega
  have wl:=gq (l:=elems.map (·.1)) (fun z hz=>hw z (.inr (.inl hz)));rcases LH len with h0|hp
  ·exact⟨some a,len,cap,[],rfl,h0,hlc,hsz,fun h=>absurd h (by omega),by simp⟩
  have step:∀i,i<len->∃cs',W.cells? base (a.add (i*6)) 6=some cs'/\∃(s:ByteArray) (e:VC) (x:aC),cs'=.string s::VC.list e/\s.size<=aH/\RW W e x/\cO x:=by
   intro i hi;have h1:=hat i hi;rw[iS,Jv (by omega)] at h1;obtain⟨cs',hcs',ht'⟩:=MC.1 h1;have hwi:=wl _ (Ko (MB (l:=elems) (n:=i) (by omega)));generalize elems[i]=q at*;obtain⟨ys,n'',rfl,rfl,hcl,hyl,hf⟩:=ML Nj ht';rw[iS] at hcl;obtain⟨v0,v1,v2,v3,v4,v5,rfl⟩:=IN hcl;obtain⟨y0,y1,rfl⟩:=He hyl;have f0:DataW.trod enc prog W base spare held n'' 9 [v0]=some y0:=by simpa[cQ] using hf 0 _ rfl
   have f1:DataW.trod enc prog W base spare held n'' 29 [v1,v2,v3,v4,v5]=some y1:=by simpa[bK] using hf 1 _ rfl
   obtain⟨s,e0,rfl,_⟩:=MU LV f0;simp only[Ln,NS] at e0;subst e0;simp only[ce,DataW.weights,Nj,List.map,DataW.weightsEach,KI] at hwi;obtain⟨e,x,he,hx,hnx⟩:=ih n'' (by omega) _ _ f1 (fun z hz=>hwi z (.inr (.inl hz)));refine⟨_,hcs',s,e,x,by rw[he],KM (hwi s.size (.inl (by simp))) du,hx,hnx⟩
  obtain⟨cs0,h0,_⟩:=step 0 hp;obtain⟨b,off,ha,_⟩:=dz h0 (by omega);have ha':a=⟨b,off,none⟩:=by simpa[Addr.add] using ha
  subst ha'
  obtain⟨f,hf⟩:=gr (p:=fun i (f:cF)=>(W.cell? ⟨b,off+i*6,none⟩=some (.string f.s)/\f.s.size<=aH/\∃e,aS W b (off+i*6+1) e/\RW W e f.v)/\cO f.v) (.mk empty aC.zero) len (fun i hi=>by
   obtain⟨cs',hcs',s,e,x,rfl,hs,hx,hnx⟩:=step i hi
   rw[dM] at hcs'
   obtain⟨b',off',ha',hc⟩:=dz hcs' (by omega)
   injection ha' with e1 e2
   subst e1 e2
   exact⟨.mk s x,⟨hc 0 (by omega),hs,e,⟨hc 1 (by omega),hc 2 (by omega),hc 3 (by omega),hc 4 (by omega),hc 5 (by omega)⟩,hx⟩,hnx⟩)
  refine⟨_,len,cap,(List.range len).map f,rfl,by simp,hlc,hsz,fun _=>⟨b,off,rfl,fun i y hi=>?_⟩,fun y hy=>(by obtain⟨i,hi,rfl⟩:=LL.1 hy;exact(hf i (Ni.1 hi)).2)⟩;have hlt:i<len:=by have:=(KF.1 hi).1;simpa using this
  rw[KP,MM hlt] at hi;simp only[Ls,LS] at hi;subst hi;exact(hf i hlt).1
theorem ka:∀(fuel:Nat) (cs:List Value) (y:DataW H×List MemPlace),DataW.trod enc prog W base spare held fuel 29 cs=some y->ce 29 y.1->∃c x,cs=c.list/\RW W c x/\cO x:=by
 intro fuel
 induction fuel using Nat.strongRecOn with
 | _ fuel ih=>
 intro cs y h hw;obtain⟨ys,n,rfl,rfl,hcl,hyl,hf⟩:=ML LU h;rw[bK] at hcl;obtain⟨v0,v1,v2,v3,v4,rfl⟩:=Eh hcl;obtain⟨y0,y1,y2,y3,y4,rfl⟩:=Eh hyl;have f0:DataW.trod enc prog W base spare held n 3 [v0]=some y0:=by simpa[aw] using hf 0 _ rfl
 have f1:DataW.trod enc prog W base spare held n 3 [v1]=some y1:=by simpa[aw] using hf 1 _ rfl
 have f2:DataW.trod enc prog W base spare held n 9 [v2]=some y2:=by simpa[cQ] using hf 2 _ rfl
 have f3:DataW.trod enc prog W base spare held n 26 [v3]=some y3:=by simpa[eN] using hf 3 _ rfl
 have f4:DataW.trod enc prog W base spare held n 27 [v4]=some y4:=by simpa[sJ] using hf 4 _ rfl
 obtain⟨k,e0,rfl,_⟩:=Lo Ld f0;obtain⟨m,e1,rfl,hm⟩:=Lo Ld f1;obtain⟨t,e2,rfl,_⟩:=MU LV f2;simp only[Ln,NS] at e0 e1 e2;subst e0 e1 e2
 have hw':ce 9 (DataW.lit (H:=H) (.string t.data.toList))/\ce 26 y3.1/\ce 27 y4.1:=by
  simp only[ce,DataW.weights,LU,List.map,DataW.weightsEach,KI] at hw;refine⟨fun z hz=>hw z ?_,fun z hz=>hw z ?_,fun z hz=>hw z ?_⟩
  ·simp only[DataW.weights] at hz;exact .inr (.inr (.inl hz))
  ·exact .inr (.inr (.inr (.inl hz)))
  ·exact .inr (.inr (.inr (.inr (.inl hz))))
 obtain⟨w2,w3,w4⟩:=hw';have htz:t.size<=aH:=KM (w2 t.size (by simp[DataW.weights])) du;obtain⟨LA,ln,lc,l,rfl,hl1,hl2,hl3,hl4,hl5⟩:=xv n (fun n' hn=>ih n' (by omega)) f3 w3;obtain⟨DA,dn,dc,d,rfl,hd1,hd2,hd3,hd4,hd5⟩:=AU n (fun n' hn=>ih n' (by omega)) f4 w4;refine⟨⟨k,m,t,LA,ln,lc,DA,dn,dc⟩,.mk k m t l d,rfl,sK.shut ⟨rfl,rfl,rfl,htz,hl1,hl2,hl3,fun hp=>?_,hd1,hd2,KM hd3 du,fun hp=>?_⟩,(im _).2 ⟨Ea hm,hl5,hd5⟩⟩
 ·obtain⟨b,off,e,h⟩:=hl4 hp;exact⟨b,off,e,Ft.JX,h⟩
 ·obtain⟨b,off,e,h⟩:=hd4 hp;exact⟨b,off,e,Ft.JX,h⟩
theorem tM{r:Reach}{b0:Nat}{v:Value}{d:DataW H}{p:List MemPlace}(hv:Value.okWide prog W r b0 29 v)(h:DataW.Trod enc prog W base spare held 29 v d p)(hw:ce 29 d):∃(c:VC) (x:aC),v=c.val/\RW W c x/\cO x:=by
 obtain⟨cs,rfl,hsz⟩:=okWide_struct LU hv;obtain⟨fuel,hf⟩:=h;obtain⟨c,x,hc,hx,hn⟩:=ka fuel _ _ hf hw;refine⟨c,x,?_,hx,hn⟩;obtain⟨l⟩:=cs;simp only[Value.cells] at hc;rw[show l=c.list from hc];rfl
end
theorem vM{H:Type}(d:DataW H):1<=Rows.uptoBulk d:=by
 cases d with
 | lit l=>cases l<;>simp[Rows.uptoBulk]
 | _=>simp[Rows.uptoBulk]
theorem DF{H:Type}{d:DataW H}{l:List (DataW H)}(h:d∈l):Rows.uptoBulk d<=Rows.uptoBulkAll l:=by
 induction l with
 | nil=>cases h
 | cons x r ih=>
  simp only[Rows.uptoBulkAll];rcases LG.1 h with rfl|h
  ·omega
  ·have:=ih h;omega
theorem vN{H:Type}(l:List (DataW H)):l.length<=Rows.uptoBulkAll l:=by
 induction l with
 | nil=>simp[Rows.uptoBulkAll]
 | cons x r ih=>have:=vM x;simp only[Rows.uptoBulkAll,Ks];omega
def Da{H:Type}(t:TypeId)(d:DataW H):Prop:=ce t d/\Rows.uptoBulk d<=1048576
theorem vO:Tryz.prog.bytesOf 174=16:=by kernel_rfl
theorem xw:Tryz.prog.bytesOf 35=184:=by kernel_rfl
theorem xx:Tryz.prog.bytesOf 38=400:=by kernel_rfl
theorem oH:Tryz.prog.cellsOf 174=2:=by kernel_rfl
theorem jV:Tryz.prog.cellsOf 35=11:=by kernel_rfl
theorem po:Tryz.prog.cellsOf 38=25:=by kernel_rfl
theorem kd:Tryz.prog.cellsOf 32=3:=by kernel_rfl
theorem mn:Tryz.prog.cellsOf 30=1:=by kernel_rfl
theorem vP:Tryz.prog.cellsOf 33=1:=by kernel_rfl
theorem vQ:Tryz.prog.cellsOf 36=1:=by kernel_rfl
section
variable {H:Type} {enc:TypeId×Value->H} {W:World} {base:Nat} {spare:Nat->Bool} {held:Bool}
theorem DG{H:Type}(l:List (DataW H)):Rows.uptoBulkAll l=(l.map Rows.uptoBulk).sum:=by
 induction l with
 | nil=>simp[Rows.uptoBulkAll]
 | cons x r ih=>simp only[Rows.uptoBulkAll,Lv,OZ,ih]
theorem xy{α:Type}{f g:α->Nat}(l:List α)(h:∀a∈l,f a<=g a):(l.map f).sum<=(l.map g).sum:=by
 induction l with
 | nil=>simp
 | cons x r ih=>
  have:=h x (by simp);have:=ih fun a ha=>h a (by simp[ha]);simp only[Lv,OZ];omega
theorem ly{α:Type}(μ:α->Nat)(rec:α->List Value)(s B:Nat)(hs0:0<s)(hs:∀a,(rec a).length=s)(P:α->Prop)(d0:α){t e:TypeId}(hu:Tryz.prog.underlying t=some (.slice e))(hB:Tryz.prog.bytesOf e=B)(hc:Tryz.prog.cellsOf e=s)(n:Nat){v:Value}{y:DataW H×List MemPlace}(each:∀n',n'<n->∀(cs:List Value) (z:DataW H×List MemPlace),DataW.trod enc prog W base spare held n' e cs=some z->Da e z.1->∃a,cs=rec a/\P a/\μ a<=Rows.uptoBulk z.1)(h:DataW.trod enc prog W base spare held n t [v]=some y)(hw:Da t y.1):
 ∃(A:Option Addr) (ln lc:Nat) (l:List α),v=.slice A ln lc/\SR s rec W A ln lc l/\ln*B<=aH/\ln<=1048576/\(∀a∈l,P a)/\(l.map μ).sum<=Rows.uptoBulk y.1:=by
 rcases Ml hu h with⟨hcs,_⟩|⟨a,len,cap,elems,rest,n',rfl,hcs,rfl,_,hlc,hcm,hel,hat,_,_⟩
 ·simp at hcs;exact⟨none,0,0,[],hcs,SR.nil,by rw[Ll];exact KD _,KD _,fun a h=>by simp at h,KD _⟩
 ·simp at hcs;subst hcs;obtain⟨hl,hk⟩:=hw;simp only[ce,DataW.weights,hu,LG,KI,hB] at hl;simp only[Rows.uptoBulk] at hk
  have hsz:len*B<=aH:=by
   have:=hl _ (.inl rfl);simp only[KX,hel] at this;have h2:len*B<=(len+rest.length)*B:=Ki _ (by omega);have:=du;omega
  have hfew:len<=1048576:=by
   have:=vN (elems.map (·.1));simp only[KX,hel] at this;omega
  have wl:=gq (l:=elems.map (·.1)) (fun z hz=>hl z (.inr (.inl hz)));rcases LH len with h0|hp
  ·subst h0;exact⟨some a,0,cap,[],rfl,SR.nil,hsz,hfew,fun a h=>by simp at h,KD _⟩
  have step:∀i,i<len->∃cs',W.cells? base (a.add (i*s)) s=some cs'/\∃x,cs'=rec x/\P x/\μ x<=((elems.map fun z=>Rows.uptoBulk z.1)[i]?).getD 0:=by
   intro i hi;have h1:=hat i hi;rw[hc,Jv (by omega)] at h1;obtain⟨cs',hcs',ht'⟩:=MC.1 h1;have hm : (elems[i]'(by omega)).1 ∈ elems.map (·.1) := Ko (MB _);have hb:=DF hm;obtain⟨x,e1,e2,e3⟩:=each n' (by omega) cs' _ ht' ⟨wl _ hm,by omega⟩;exact⟨cs',hcs',x,e1,e2,by rw[KP,Jv (by omega)];exact e3⟩
  obtain⟨cs0,h0,_⟩:=step 0 hp;obtain⟨b,off,ha,_⟩:=dz h0 hs0;have ha':a=⟨b,off,none⟩:=by simpa[Addr.add] using ha
  subst ha'
  obtain⟨f,hf⟩:=gr (p:=fun i x=>(∀(j:Nat) (u:Value),(rec x)[j]?=some u->W.cell? ⟨b,off+i*s+j,none⟩=some u)/\P x/\μ x<=((elems.map fun z=>Rows.uptoBulk z.1)[i]?).getD 0) d0 len (fun i hi=>by
   obtain⟨cs',hcs',x,rfl,hx⟩:=step i hi
   rw[dM] at hcs'
   obtain⟨b',off',ha',hcx⟩:=dz hcs' hs0
   injection ha' with e1 e2
   subst e1 e2
   refine⟨x,fun j u hj=>?_,hx⟩
   have hjs:j<s:=by have:=(KF.1 hj).1;rw[hs] at this;exact this
   rw[hcx j hjs]
   exact hj)
  refine⟨_,len,cap,(List.range len).map f,rfl,⟨by simp,hlc,fun _=>⟨b,off,rfl,?_,fun i x hi j u hj=>?_⟩⟩,hsz,hfew,fun x hx=>?_,?_⟩
  ·have hl0:0<(rec (f 0)).length:=by rw[hs];exact hs0
   exact KY W _ ((hf 0 hp).1 0 _ (Jv hl0))
  ·have hlt:i<len:=by have:=(KF.1 hi).1;simpa using this
   rw[KP,MM hlt] at hi;simp only[Ls,LS] at hi;subst hi;exact(hf i hlt).1 j u hj
  ·obtain⟨i,hi,rfl⟩:=LL.1 hx;exact(hf i (Ni.1 hi)).2.1
  ·have h1:(((List.range len).map f).map μ).sum<=(elems.map fun z=>Rows.uptoBulk z.1).sum:=by
    rw[Mq]
    have e:elems.map (fun z=>Rows.uptoBulk z.1)=(List.range len).map fun i=>((elems.map fun z=>Rows.uptoBulk z.1)[i]?).getD 0:=by
     refine List.ext_getElem (by simp[hel]) fun i h1 h2=>?_;simp at h1;simp[Jv h1]
    rw[e];exact xy _ fun i hi=>(hf i (Ni.1 hi)).2.2
   have h2:(elems.map fun z=>Rows.uptoBulk z.1).sum=Rows.uptoBulkAll (elems.map (·.1)):=by
    rw[DG,Mq];rfl
   simp only[Rows.uptoBulk];omega
theorem rq{α:Type}(rec:α->List Value)(s B:Nat)(hs0:0<s)(hs:∀a,(rec a).length=s)(P:α->Prop)(d0:α){t e:TypeId}(hu:Tryz.prog.underlying t=some (.slice e))(hB:Tryz.prog.bytesOf e=B)(hc:Tryz.prog.cellsOf e=s)(n:Nat){v:Value}{y:DataW H×List MemPlace}(each:∀n',n'<n->∀(cs:List Value) (z:DataW H×List MemPlace),DataW.trod enc prog W base spare held n' e cs=some z->Da e z.1->∃a,cs=rec a/\P a)(h:DataW.trod enc prog W base spare held n t [v]=some y)(hw:Da t y.1):
 ∃(A:Option Addr) (ln lc:Nat) (l:List α),v=.slice A ln lc/\SR s rec W A ln lc l/\ln*B<=aH/\ln<=1048576/\∀a∈l,P a:=by
 obtain⟨A,ln,lc,l,e,h1,h2,h3,h4,_⟩:=ly (fun _=>0) rec s B hs0 hs P d0 hu hB hc n (fun n' hn cs z h1 h2=>by obtain⟨a,e,k⟩:=each n' hn cs z h1 h2;exact⟨a,e,k,KD _⟩) h hw;exact⟨A,ln,lc,l,e,h1,h2,h3,h4⟩
theorem xz(n:Nat)(cs:List Value)(y:DataW H×List MemPlace)(h:DataW.trod enc prog W base spare held n 174 cs=some y):∃p:Int×Int,cs=nh p:=by
 obtain⟨ys,n1,rfl,rfl,hcl,hyl,hf⟩:=ML underlying174 h;rw[oH] at hcl;obtain⟨v0,v1,rfl⟩:=He hcl;obtain⟨y0,y1,rfl⟩:=He hyl;have f0:DataW.trod enc prog W base spare held n1 3 [v0]=some y0:=by simpa[aw] using hf 0 _ rfl
 have f1:DataW.trod enc prog W base spare held n1 3 [v1]=some y1:=by simpa[aw] using hf 1 _ rfl
 obtain⟨k,e0,rfl,_⟩:=Lo Ld f0;obtain⟨m,e1,rfl,_⟩:=Lo Ld f1;simp only[Ln,NS] at e0 e1;subst e0 e1;exact⟨(k,m),rfl⟩
theorem GC{α:Type}{l:List α}(h:l.length=7):∃a0 a1 a2 a3 a4 a5 a6,l=[a0,a1,a2,a3,a4,a5,a6]:=by
 match l,h with
 | [a0,a1,a2,a3,a4,a5,a6],_=>exact⟨_,_,_,_,_,_,_,rfl⟩
theorem GD{α:Type}{l:List α}(h:l.length=3):∃a0 a1 a2,l=[a0,a1,a2]:=by
 match l,h with
 | [a0,a1,a2],_=>exact⟨_,_,_,rfl⟩
theorem Gs{α:Type}{l:List α}(h:l.length=9):∃a0 a1 a2 a3 a4 a5 a6 a7 a8,l=[a0,a1,a2,a3,a4,a5,a6,a7,a8]:=by
 match l,h with
 | [a0,a1,a2,a3,a4,a5,a6,a7,a8],_=>exact⟨_,_,_,_,_,_,_,_,_,rfl⟩
theorem Gt{α:Type}{l:List α}(h:l.length=11):∃a0 a1 a2 a3 a4 a5 a6 a7 a8 a9 a10,l=[a0,a1,a2,a3,a4,a5,a6,a7,a8,a9,a10]:=by
 match l,h with
 | [a0,a1,a2,a3,a4,a5,a6,a7,a8,a9,a10],_=>exact⟨_,_,_,_,_,_,_,_,_,_,_,rfl⟩
theorem GF{α:Type}{l:List α}(h:l.length=25):∃a0 a1 a2 a3 a4 a5 a6 a7 a8 a9 b0 b1 b2 b3 b4 b5 b6 b7 b8 b9 c0 c1 c2 c3 c4,l=[a0,a1,a2,a3,a4,a5,a6,a7,a8,a9,b0,b1,b2,b3,b4,b5,b6,b7,b8,b9,c0,c1,c2,c3,c4]:=by
 match l,h with
 | [a0,a1,a2,a3,a4,a5,a6,a7,a8,a9,b0,b1,b2,b3,b4,b5,b6,b7,b8,b9,c0,c1,c2,c3,c4],_=>exact⟨_,_,_,_,_,_,_,_,_,_,_,_,_,_,_,_,_,_,_,_,_,_,_,_,_,rfl⟩
theorem AV:∀(fuel:Nat) (cs:List Value) (y:DataW H×List MemPlace),DataW.trod enc prog W base spare held fuel 35 cs=some y->Da 35 y.1->∃x:dI,cs=dO x/\WX W x:=by
 intro fuel
 induction fuel using Nat.strongRecOn with
 | _ fuel ih=>
 intro cs y h hw;obtain⟨ys,n,rfl,rfl,hcl,hyl,hf⟩:=ML Kw h;rw[jV] at hcl;obtain⟨v0,v1,v2,v3,v4,v5,v6,v7,v8,v9,v10,rfl⟩:=Gt hcl;obtain⟨y0,y1,y2,y3,y4,y5,y6,rfl⟩:=GC hyl;have f0:DataW.trod enc prog W base spare held n 3 [v0]=some y0:=by simpa[aw] using hf 0 _ rfl
 have f1:DataW.trod enc prog W base spare held n 25 [v1]=some y1:=by simpa[aw,bo] using hf 1 _ rfl
 have f2:DataW.trod enc prog W base spare held n 9 [v2]=some y2:=by simpa[aw,bo,cQ] using hf 2 _ rfl
 have f3:DataW.trod enc prog W base spare held n 25 [v3]=some y3:=by simpa[aw,bo,cQ] using hf 3 _ rfl
 have f4:DataW.trod enc prog W base spare held n 29 [v4,v5,v6,v7,v8]=some y4:=by simpa[aw,bo,cQ,bK] using hf 4 _ rfl
 have f5:DataW.trod enc prog W base spare held n 3 [v9]=some y5:=by simpa[aw,bo,cQ,bK] using hf 5 _ rfl
 have f6:DataW.trod enc prog W base spare held n 33 [v10]=some y6:=by simpa[aw,bo,cQ,bK,vP] using hf 6 _ rfl
 obtain⟨hl,hk⟩:=hw;simp only[ce,DataW.weights,Kw,List.map,DataW.weightsEach,KI] at hl;simp only[Rows.uptoBulk,List.map,Rows.uptoBulkAll] at hk;obtain⟨k,e0,rfl,_⟩:=Lo Ld f0;obtain⟨pA,pn,pc,ps,rfl,hps⟩:=jU n f1 (fun z hz=>hl z (.inr (.inl hz)));obtain⟨s,e2,e2',_⟩:=MU LV f2;obtain⟨nA,nn,nc,ns,rfl,hns⟩:=jU n f3 (fun z hz=>hl z (.inr (.inr (.inr (.inl hz)))));obtain⟨c,x,e4,hx⟩:=yN n _ _ f4 (fun z hz=>hl z (.inr (.inr (.inr (.inr (.inl hz))))));obtain⟨m,e5,rfl,_⟩:=Lo Ld f5;have hsz:s.size<=aH:=KM (hl s.size (.inr (.inr (.inl (by rw[e2'];simp[DataW.weights]))))) du;obtain⟨kA,kn,kc,ks,rfl,hks,kz,_,hkk⟩:=rq dO 11 184 (by omega) sT (WX W) dI.zero underlying33 xw jV n (fun n' hn cs z h1 h2=>ih n' (by omega) cs z h1 h2) f6 ⟨fun z hz=>hl z (.inr (.inr (.inr (.inr (.inr (.inr (.inl hz))))))),by omega⟩;simp only[Ln,NS] at e0 e2 e5;subst e0 e2 e5;refine⟨.mk k ⟨pA,pn,pc,ps⟩ s ⟨nA,nn,nc,ns⟩ (c,x) m kA kn kc ks,?_,GL.shut ⟨hps,hsz,hns,hx,hks,kz,hkk⟩⟩;simp only[VC.list,Ln,NS] at e4;obtain⟨a4,a5,a6,a7,a8⟩:=e4;subst a4 a5 a6 a7 a8;rfl
theorem DH{α:Type}(l:List α):(l.map fun _=>1).sum=l.length:=by
 induction l with
 | nil=>rfl
 | cons x r ih=>simp only[Lv,OZ,ih,Ks];omega
theorem Eb(l:List aX):aX.sz.szL l=(l.map aX.sz).sum:=by
 induction l with
 | nil=>rfl
 | cons x r ih=>simp only[aX.sz.szL,Lv,OZ,ih]
theorem yB:∀(fuel:Nat) (cs:List Value) (y:DataW H×List MemPlace),DataW.trod enc prog W base spare held fuel 38 cs=some y->Da 38 y.1->∃p:aX,cs=aq p/\(WP W p/\jZ p)/\p.sz<=Rows.uptoBulk y.1:=by
 intro fuel
 induction fuel using Nat.strongRecOn with
 | _ fuel ih=>
 intro cs y h hw;obtain⟨ys,n,rfl,rfl,hcl,hyl,hf⟩:=ML KH h;rw[po] at hcl;obtain⟨v0,v1,v2,v3,v4,v5,v6,v7,v8,v9,w0,w1,w2,w3,w4,w5,w6,w7,w8,w9,x0,x1,x2,x3,x4,rfl⟩:=GF hcl;obtain⟨y0,y1,y2,y3,y4,y5,y6,y7,y8,rfl⟩:=Gs hyl
 have hTot:1+Rows.uptoBulk y3.1+Rows.uptoBulk y8.1<=Rows.uptoBulk (DataW.agg (List.map (·.1) [y0,y1,y2,y3,y4,y5,y6,y7,y8])):=by
  simp only[Rows.uptoBulk,List.map,Rows.uptoBulkAll];omega
 have f0:DataW.trod enc prog W base spare held n 3 [v0]=some y0:=by simpa[aw] using hf 0 _ rfl
 have f1:DataW.trod enc prog W base spare held n 25 [v1]=some y1:=by simpa[aw,bo] using hf 1 _ rfl
 have f2:DataW.trod enc prog W base spare held n 29 [v2,v3,v4,v5,v6]=some y2:=by simpa[aw,bo,bK] using hf 2 _ rfl
 have f3:DataW.trod enc prog W base spare held n 26 [v7]=some y3:=by simpa[aw,bo,bK,eN] using hf 3 _ rfl
 have f4:DataW.trod enc prog W base spare held n 3 [v8]=some y4:=by simpa[aw,bo,bK,eN] using hf 4 _ rfl
 have f5:DataW.trod enc prog W base spare held n 3 [v9]=some y5:=by simpa[aw,bo,bK,eN] using hf 5 _ rfl
 have f6:DataW.trod enc prog W base spare held n 32 [w0,w1,w2]=some y6:=by simpa[aw,bo,bK,eN,kd] using hf 6 _ rfl
 have f7:DataW.trod enc prog W base spare held n 35 [w3,w4,w5,w6,w7,w8,w9,x0,x1,x2,x3]=some y7:=by simpa[aw,bo,bK,eN,kd,jV] using hf 7 _ rfl
 have f8:DataW.trod enc prog W base spare held n 36 [x4]=some y8:=by simpa[aw,bo,bK,eN,kd,jV,vQ] using hf 8 _ rfl
 obtain⟨hl,hk⟩:=hw;simp only[ce,DataW.weights,KH,List.map,DataW.weightsEach,KI] at hl;simp only[Rows.uptoBulk,List.map,Rows.uptoBulkAll] at hk;obtain⟨k,e0,rfl,_⟩:=Lo Ld f0;obtain⟨pA,pn,pc,ps,rfl,hps⟩:=jU n f1 (fun z hz=>hl z (.inr (.inl hz)));obtain⟨c,x,e2,hx,hnx⟩:=ka n _ _ f2 (fun z hz=>hl z (.inr (.inr (.inl hz))));have hls:Da 26 y3.1:=⟨fun z hz=>hl z (.inr (.inr (.inr (.inl hz)))),by omega⟩
 obtain⟨aA,an,ac,avs,rfl,has,az,afew,hrv,aB⟩:=ly (fun _=>1) bC 5 80 (by omega) bQ (fun p=>RW W p.1 p.2/\cO p.2) (VC.zero,aC.zero) Kv kj bK n (fun n' hn cs z h1 h2=>by
  obtain⟨c,x,e,r,m⟩:=ka n' cs z h1 h2.1
  exact⟨(c,x),e,⟨r,m⟩,vM _⟩) f3 hls
 obtain⟨nn,e4,rfl,_⟩:=Lo Ld f4;obtain⟨mm,e5,rfl,_⟩:=Lo Ld f5;obtain⟨xe,e7,hxe⟩:=AV n _ _ f7 ⟨fun z hz=>hl z (.inr (.inr (.inr (.inr (.inr (.inr (.inr (.inl hz)))))))),by omega⟩;obtain⟨kA,kn,kc,ks,rfl,hks,kz,_,hkk,kB⟩:=ly aX.sz aq 25 400 (by omega) jG (fun k=>WP W k/\jZ k) (.mk 0 .nil (VC.zero,aC.zero) .nil 0 0 0 .nil 0 dI.zero none 0 0 []) Nd xx po n (fun n' hn cs z h1 h2=>ih n' (by omega) cs z h1 h2) f8 ⟨fun z hz=>hl z (.inr (.inr (.inr (.inr (.inr (.inr (.inr (.inr (.inl hz))))))))),by omega⟩;have hsh:Da 32 y6.1:=⟨fun z hz=>hl z (.inr (.inr (.inr (.inr (.inr (.inr (.inl hz))))))),by omega⟩;clear hl hk;obtain⟨ys6,n6,rfl,rfl,hcl6,hyl6,hf6⟩:=ML Mv f6;obtain⟨z0,z1,z2,rfl⟩:=GD hyl6;have g0:DataW.trod enc prog W base spare held n6 3 [w0]=some z0:=by simpa[aw] using hf6 0 _ rfl
 have g1:DataW.trod enc prog W base spare held n6 30 [w1]=some z1:=by simpa[aw,mn] using hf6 1 _ rfl
 have g2:DataW.trod enc prog W base spare held n6 3 [w2]=some z2:=by simpa[aw,mn] using hf6 2 _ rfl
 obtain⟨hl6,hk6⟩:=hsh;simp only[ce,DataW.weights,Mv,List.map,DataW.weightsEach,KI] at hl6;simp only[Rows.uptoBulk,List.map,Rows.uptoBulkAll] at hk6;obtain⟨sk,d0,rfl,_⟩:=Lo Ld g0
 obtain⟨sA,sn,sc,ss,rfl,hss,sz,_,_⟩:=rq nh 2 16 (by omega) sU (fun _=>True) (0,0) underlying30 vO oH n6 (fun n' hn cs z h1 h2=>by
  obtain⟨p,e⟩:=xz n' cs z h1
  exact⟨p,e,trivial⟩) g1 ⟨fun z hz=>hl6 z (.inr (.inl hz)),by omega⟩
 obtain⟨sr,d2,rfl,_⟩:=Lo Ld g2;simp only[Ln,NS] at e0 e4 e5 d0 d2;subst e0 e4 e5 d0 d2
 have hblk:0<an->∃b off,aA=some ⟨b,off,none⟩/\Ft (fun _=>True) W b:=fun hn=>by
  obtain⟨b,off,e,_,_⟩:=has.el hn;exact⟨b,off,e,Ft.JX⟩
 refine⟨.mk k ⟨pA,pn,pc,ps⟩ (c,x) ⟨aA,an,ac,avs⟩ nn mm sk ⟨sA,sn,sc,ss⟩ sr xe kA kn kc ks,?_,⟨Dn.shut ⟨hps,hx,⟨has,az,hblk,fun p hp=>(hrv p hp).1⟩,afew,hss,sz,hxe,hks,kz,fun k hk=>(hkk k hk).1⟩,(AF _).2 ⟨hnx,fun x hx=>(hrv x hx).2,fun k hk=>(hkk k hk).2⟩⟩,?_⟩;rotate_left
 ·rw[aX.Ir,Eb];refine KM ?_ hTot;have e:(avs.map fun _=>1).sum=an:=(DH avs).trans has.ln.symm;rw[e] at aB;show 1+an+(ks.map aX.sz).sum<=_;omega
 simp only[VC.list,Ln,NS] at e2;obtain⟨a4,a5,a6,a7,a8⟩:=e2;subst a4 a5 a6 a7 a8;simp only[dO,Ln,NS] at e7;obtain⟨b0,b1,b2,b3,b4,b5,b6,b7,b8,b9,b10⟩:=e7;subst b0 b1 b2 b3 b4 b5 b6 b7 b8 b9 b10;rfl
theorem AW(fuel:Nat)(cs:List Value)(y:DataW H×List MemPlace)(h:DataW.trod enc prog W base spare held fuel 38 cs=some y)(hw:Da 38 y.1):∃p:aX,cs=aq p/\WP W p/\jZ p:=by
 obtain⟨p,e,k,_⟩:=yB fuel cs y h hw;exact⟨p,e,k⟩
theorem AX{r:Reach}{b0:Nat}{v:Value}{d:DataW H}{p:List MemPlace}(hv:Value.okWide prog W r b0 38 v)(h:DataW.Trod enc prog W base spare held 38 v d p)(hw:Da 38 d):∃q:aX,v=aW q/\WP W q/\jZ q:=by
 obtain⟨cs,rfl,hsz⟩:=okWide_struct KH hv;obtain⟨fuel,hf⟩:=h;obtain⟨q,hc,hx,hn⟩:=AW fuel _ _ hf hw;refine⟨q,?_,hx,hn⟩;obtain⟨l⟩:=cs;simp only[Value.cells] at hc;rw[show l=aq q from hc];rfl
end
end
end Go.Proofs.YtgfoliedmhgpnaaGreatDoor
