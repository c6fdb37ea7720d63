/- A part of the proof. -/
import Derived.Test.YtgfoliedmhgpnaaGreatDoorBn20
import Derived.Great.BuildSlice
set_option maxRecDepth 100000
set_option maxHeartbeats 16000000
set_option linter.unusedSimpArgs false
open Go.Proofs.Tryz
open ByteArray (empty)
namespace Go.Proofs.YtgfoliedmhgpnaaGreatDoor
open Go.RowKit
section
variable {l xs:List ByteArray} {c i g n size:Nat} {op a x:Int} {w:World} {A:Option Addr} {t:TypeId} {cs:Array Value}
theorem zZ{w:World}{g:Nat}{cs:Array Value}(h:aG w g 85 cs)(hz:cs.size=12):(Instr.loadAt 85 (.pointer (some ⟨g,0,none⟩))).run prog w=.ok (.agg cs) w:=by
 simp only[Instr.loadAt,Instr.sureAddr,Oc,Oe,NZ,sQ h hz]
theorem FR(p:aX)(ho:p.op=4\/p.op=5\/p.op=6\/p.op=7)(hv:aL p.arg.2=true)(A:Option Addr)(n c:Nat)(l:List ByteArray)(w:World)(hw:WP w p)(hT:cY w)(hl:ST w A n c l)(hp:p.path.xs=l):
 Calls prog 22 #[aW p,.slice A n c] w (dD (dx p.op p.arg.2 (p.args.xs.map Prod.snd) p.n) p.sz w):=by
 have HE:Hid (∀wr,Below w.heap.size w wr->Calls prog 66 #[.slice p.path.A p.path.n p.path.c,.slice A n c] wr fun e w'=>e=.returned (.bool (de p.path.xs l))/\Below wr.heap.size wr w'):=qD fun wr hb=>fW p.path.xs l p.path.A A p.path.n p.path.c n c wr (hw.open.path.step hb) (hl.step hb);rw[fX.2 hp] at HE;have HT:=qD hT;have HSZ:Hid (1<=p.sz):=by rw[Hid,p.Ir];omega
 have HX:=qD hw.open.arg;have HK:Hid (p.arg.1.k=p.arg.2.k):=qD hw.open.arg.open.k;have HN:Hid (1<=p.arg.1.k/\p.arg.1.k<=11):=by rw[HK.out];exact qD (dV hv)
 have HO:=qD ho;clear hw hT hl hp hv;have B0:Hid (aG (w.alloc (.cells (aD p) 38)) w.heap.size 38 (aD p)):=aG.Ii rfl;have BE:=qD ((Ju w.heap.size w).alloc (qL) (Obj.cells (aD p) 38));go_enter Mm,Md;go_upto_region 1 with fail
 change Code.wp _ _ _ _ (w.alloc (.cells (aD p) 38));generalize w.alloc (.cells (aD p) 38)=wa at*;obtain⟨d0,d1,_,_,_,_,_,_⟩:=aR B0.out;obtain⟨op,hop⟩:∃op,op=p.op:=⟨_,rfl⟩;rw[<-hop] at d0 ho;have HOP:=qD hop;clear hop;rcases ho with rfl|rfl|rfl|rfl
 all_goals
  go_wp2_with fail;refine(HE.out _ BE.out).mono ?_;rintro e w1 ⟨rfl,hb⟩;replace BE:=qD (BE.out.Ih hb);replace B0:=qD (B0.out.step hb);clear hb d0 d1 HE;obtain⟨d0,_,_,_,_,_,_,_⟩:=aR B0.out;rw[<-HOP.out] at d0;have f2:=(bV B0.out) 0 _ rfl;simp only[Nat.reduceAdd] at f2;by_cases h6:p.arg.1.k=6
  ·have HL:Hid (dx p.op p.arg.2 (p.args.xs.map Prod.snd) p.n=(eD,false)):=qD (bz (lR HO.out (by rw[<-HK.out];exact h6)));have K6:Hid (Calls prog 69 #[.int .i64 p.arg.1.k] w1 fun e w'=>e=.returned (.tuple #[jf zI,.bool false])/\Below w1.heap.size w1 w'):=by rw[h6];exact qD (ou w1)
   clear h6;go_wp2_with fail;refine K6.out.mono ?_;rintro e w2 ⟨rfl,hb⟩;replace BE:=qD (BE.out.Ih hb);clear hb B0 d0 f2;go_upto_region 17 with fail
   change Code.wp _ _ _ _ (w2.alloc (.cells (aa zI) 85));replace BE:=qD (BE.out.alloc BE.out.size (Obj.cells (aa zI) 85));generalize w2.alloc (.cells (aa zI) 85)=w3 at*;go_wp2_with fail;refine(eW _).mono ?_;rintro e w4 ⟨A3,m3,c3,ys,nf,rfl,hy,hnf,hmk,hsi,hb3,hfr⟩;have HNO:=qD (show dD (eD,false) 1 w3 (.returned (.tuple #[.slice A3 m3 c3,.bool false])) w4 from⟨A3,m3,c3,ys,nf,rfl,hy,hnf,hmk,hsi,hb3,hfr⟩);clear hy hnf hmk hsi hb3 hfr;go_wp2_with fail;go_ret2;rw[HL.out];exact HNO.out.up BE.out HSZ.out
  ·have KR:=qD (iU p.arg.1.k w1 HN.out h6);have HQI:Hid (cB (dN p.arg.1.k)=bB p.arg.2.k):=by rw[Hid,yT HN.out h6,HK.out]
   have HQO:Hid (∀wq:World,qe wq (dN p.arg.1.k)):=qD fun wq=>oT _ wq
   have HL:Hid (dx p.op p.arg.2 (p.args.xs.map Prod.snd) p.n=((fun a=>ch aZ a (aU ([oo p.op (dN p.arg.1.k) p.arg].map cB))),decide (p.arg.2.k≠2))):=by
    rw[Hid,bU (mz HO.out (by rw[<-HK.out];exact h6)),Lb];rw[show cB (oo p.op (dN p.arg.1.k) p.arg)=mZ p.op p.arg.2 from Df (x:=p.arg.2) (c:=p.arg.1) HQI.out]
   clear h6;obtain⟨b2,hb2⟩:∃b,b=decide (p.arg.2.k≠2):=⟨_,rfl⟩;rw[<-hb2] at HL;have k2:(p.arg.1.k != 2)=b2:=by rw[hb2,HK.out,Kc];simp
   clear hb2;go_wp2_with fail;refine KR.out.mono ?_;obtain⟨q,hq⟩:∃q,q=dN p.arg.1.k:=⟨_,rfl⟩;rw[<-hq] at HL HQO;rintro e w2 ⟨rfl,hb⟩;rw[<-hq];clear hq KR HQI
   have HQ:Hid (∀wq:World,Below w.heap.size w wq->qe wq (oo p.op q p.arg)):=qD fun wq hb=>by
    unfold oo;split
    ·exact⟨HX.out.step hb,(HQO.out wq).2⟩
    ·exact⟨(HQO.out wq).1,HX.out.step hb⟩
   replace BE:=qD (BE.out.Ih hb);replace B0:=qD (B0.out.step hb);clear hb d0 f2;go_upto_region 17 with fail
   change Code.wp _ _ _ _ (w2.alloc (.cells (aa q) 85));have J:Hid (aG (w2.alloc (.cells (aa q) 85)) w2.heap.size 85 (aa q)):=aG.Ii rfl;replace BE:=qD (BE.out.alloc BE.out.size (Obj.cells (aa q) 85));replace B0:=qD (B0.out.alloc (.cells (aa q) 85));generalize w2.alloc (.cells (aa q) 85)=w3 at*;generalize w2.heap.size=gj at*;have f2:=(bV B0.out) 0 _ rfl;simp only[Nat.reduceAdd] at f2;go_upto_region 18 with fail
   have B:=qD ((Ju w3.heap.size w3).drew);have KS:Hid (∀w',Below w3.heap.size w3 w'->(fun w'=>(Instr.loadAt 85 (.pointer (some ⟨gj,0,none⟩))).run prog w'=.ok (jf q) w'/\(Instr.loadAt 38 (.pointer (some ⟨w.heap.size,0,none⟩))).run prog w'=.ok (aW p) w'/\w'.cell? ⟨w.heap.size,2,none⟩=some (.int .i64 p.arg.1.k)) w'):=qD fun w' hb=>⟨zZ (J.out.step hb) rfl,ff (aD p) rfl _ _ (B0.out.step hb),(hb.cell (p:=⟨w.heap.size,2,none⟩) B0.out.lt).trans f2⟩;clear f2;refine Kn ?_;refine Kg (S:=(fun w'=>(Instr.loadAt 85 (.pointer (some ⟨gj,0,none⟩))).run prog w'=.ok (jf q) w'/\(Instr.loadAt 38 (.pointer (some ⟨w.heap.size,0,none⟩))).run prog w'=.ok (aW p) w'/\w'.cell? ⟨w.heap.size,2,none⟩=some (.int .i64 p.arg.1.k))) (by kernel_rfl) ?_ (fun hHeld=>?_)
   ·(try dsimp only);exact KS.out _ B.out
   refine rT (v:=jf q) 0 rfl (fun w' hSw=>bL (p:=.pointer (some ⟨gj,0,none⟩)) rfl rfl hSw.1) ?_
   try go_frame
   refine rT (v:=aW p) 1 rfl (fun w' hSw=>bL (p:=.pointer (some ⟨w.heap.size,0,none⟩)) rfl rfl hSw.2.1) ?_
   try go_frame
   refine rV 5 rfl ?_
   try go_frame
   refine rV 6 rfl ?_
   try go_frame
   refine rV 7 rfl ?_
   try go_frame
   refine rV 8 rfl ?_
   try go_frame
   refine rY 2 rfl fun K hK=>?_;go_simp;refine((uA q p _ HO.out)).mono ?_;rintro e4 w4 ⟨rfl,hb⟩;replace B:=qD (B.out.Ih hb);clear hb
   (try go_wp2_with fail)
   clear hHeld;refine hK.out _ _ (KS.out _ B.out) fun hHeld=>?_;clear hK K
   try go_frame
   refine rY 3 rfl fun K hK=>?_;go_simp;clear hHeld;refine hK.out _ _ (KS.out _ (B.out.alloc B.out.size _)) fun hHeld=>?_;clear hK K
   try go_frame
   refine rY 4 rfl fun K hK=>?_;go_simp;refine(dj [oo p.op q p.arg] _ 1 1 _ (HT.out.step (BE.out.Ih (B.out.alloc B.out.size _))) (jq (aG.Ii rfl) (HQ.out _ (BE.out.Ih (B.out.alloc B.out.size _)))) (by omega)).mono ?_;rintro e3 w5 ⟨A3,m3,c3,ys,nf,rfl,hy,hnf,hmk,hsi,hb3,hfr⟩;have HNO:=qD (show dD ((fun a=>ch aZ a (aU ([oo p.op q p.arg].map cB))),b2) 1 _ (.returned (.tuple #[.slice A3 m3 c3,.bool b2])) w5 from⟨A3,m3,c3,ys,nf,rfl,hy,hnf,hmk,hsi,hb3,hfr⟩);replace HNO:=qD (HNO.out.up (B.out.alloc B.out.size _) (qL));replace B:=qD ((B.out.alloc B.out.size _).Ih hb3);clear hy hnf hmk hsi hb3 hfr
   (try go_wp2_with fail)
   clear hHeld;refine hK.out _ _ (KS.out _ B.out) fun hHeld=>?_;clear hK K
   try go_frame
   refine rV 9 rfl ?_
   try go_frame
   refine rV 10 rfl ?_
   try go_frame
   refine rD ?_ _;refine Kq ?_;clear hHeld;go_wp2_with fail;go_ret2;rw[HL.out];exact HNO.out.up BE.out HSZ.out
theorem nJ:∀p,vv p:=by
 refine aX.ind fun p ih=>?_;by_cases h20:p.op=20
 ·exact FJ p ih h20
 by_cases h21:p.op=21
 ·exact GU p ih h21
 intro A n c l w hw hv hT hl hz;by_cases hp:p.path.xs=l
 ·rw[kQ h20 h21 hp];by_cases h2:p.op=2
  ·rw[h2];exact FO p h2 A n c l w hw hT hl hp
  by_cases ho:p.op=4\/p.op=5\/p.op=6\/p.op=7
  ·exact FR p ho (hv.open.arg (by omega)) A n c l w hw hT hl hp
  by_cases h8:p.op=8
  ·rw[h8];exact GV p h8 A n c l w hw hl hp _ fun wr hb=>(Ba p wr (hw.step hb) (hT.step hb)).mono fun e w' h=>h.up (Ju _ _) (by rw[p.Ir];omega)
  by_cases h16:p.op=16
  ·rw[h16];exact FK p h16 A n c l w hw hl hp _ fun wr hb=>(sR p wr (hw.step hb) (hT.step hb)).mono fun e w' h=>h.up (Ju _ _) (by rw[p.Ir];omega)
  by_cases h11:p.op=11
  ·rw[h11];exact Dj p h11 (hv.open.kind h11) A n c l w hw hT hl hp
  rw[bz (jv (by omega))];exact Bl p (by omega) A n c l w hw hl hp
 ·rw[ma h20 h21 hp];exact Di p h20 h21 A n c l w hw hl hp
def aX.zero:aX:=.mk 0 .nil (VC.zero,aC.zero) .nil 0 0 0 .nil 0 dI.zero none 0 0 []
theorem lY:(Tryz.prog.info? 38).map (fun i=>(i.zero,i.size,i.bytes))=some (some (aW aX.zero),25,400):=by kernel_rfl
theorem Bp:(Tryz.prog.info? 63).map (fun i=>(i.zero,i.size,i.bytes))=some (some (.slice none 0 0),1,24):=by kernel_rfl
theorem za(p:aX):Instr.fill (fun i=>some (i*25,25)) ((Array.range (1*25)).map ((aW aX.zero).cells[·%(aW aX.zero).cells.size]!)) [(0,aW p)]=some (aD p):=by
 obtain⟨op,⟨pA,pn,pc,px⟩,⟨⟨c1,c2,c3,c4,c5,c6,c7,c8,c9⟩,av⟩,⟨aA,an,ac,ax⟩,n,m,sk,⟨sA,sn,sc,sx⟩,sr,⟨eo,⟨d1,d2,d3,d4⟩,en,⟨e1,e2,e3,e4⟩,⟨⟨f1,f2,f3,f4,f5,f6,f7,f8,f9⟩,ev⟩,ex,kA,kn,kc,ks⟩,lA,ln,lc,ls⟩:=p;kernel_rfl
theorem wM{a:Act}{t:Tmp}{p:aX}(ht:a.eval (.tmp t)=aW p):
 Instr.fill (fun i=>some (i*25,25)) ((Array.range (1*25)).map ((aW aX.zero).cells[·%(aW aX.zero).cells.size]!)) ((#[(0,Operand.tmp t)]:Array (Nat×Operand)).map fun(i,x)=>(i,a.eval x)).toList=some (aD p):=by
 have h:((#[(0,Operand.tmp t)]:Array (Nat×Operand)).map fun(i,x)=>(i,a.eval x)).toList=[(0,aW p)]:=by simp[ht]
 rw[h];exact za p
theorem Dr{w:World}{g:Nat}{p:aX}(h:aG w g 38 (aD p)):SR 25 aq w (some ⟨g,0,none⟩) 1 1 [p]:=by
 refine⟨rfl,qL,fun _=>⟨g,0,rfl,h.lt,fun i x hi j v hj=>?_⟩⟩;cases i with
 | zero=>
  simp at hi;subst hi;rw[Ll];exact ae h j v hj
 | succ i=>simp at hi
def FS(p:aX)(w:World)(e:Ending)(w':World):Prop:=
 ∃(A:Option Addr) (n c:Nat),e=.returned (.slice A n c)/\SR 25 aq w' A n c (aj p)/\n*400<=aH/\Below w.heap.size w w'
theorem kt(p:aX)(w:World)(hw:WP w p):Calls prog 127 #[aW p] w (FS p w):=by
 have W:=qD hw.open;have B0:Hid (aG (w.alloc (.cells (aD p) 38)) w.heap.size 38 (aD p)):=aG.Ii rfl;have BE:=qD ((Ju w.heap.size w).alloc (qL) (Obj.cells (aD p) 38));clear hw;go_enter func127,ntmps127;go_upto_region 1 with fail
 change Code.wp _ _ _ _ (w.alloc (.cells (aD p) 38));generalize w.alloc (.cells (aD p) 38)=wa at*;obtain⟨d0,_,_,_,_,_,_,d24⟩:=aR B0.out;by_cases h20:p.op=20
 ·have hb:(p.op==20)=true:=by simp[h20]
  have HE:Hid (aj p=p.kids):=by unfold Hid aj;rw[Kb h20]
  clear h20;go_wp2_with fail;go_ret;exact⟨p.kA,p.kn,p.kc,rfl,by rw[HE.out];exact W.out.sr.step BE.out,W.out.ksz,BE.out⟩
 ·have hb:(p.op==20)=false:=by simp[h20]
  have HE:Hid (aj p=[p]):=by unfold Hid aj;rw[KU h20]
  have RF:=qD (ae B0.out);obtain⟨j0,hj0,hw0,hw1,hw2⟩:=LM lY;clear h20 d24
  go_wp2_with (first
   | ((with_reducible show wpList _ _ _ (⟨_,.load 38 _,_,_,_,_⟩::_) _ _);refine aE rfl 38 _ rfl w.heap.size 0 rfl _ _ RF.out KH rfl (by kernel_rfl) ?_)
   | ((with_reducible show wpList _ _ _ (⟨_,.buildSlice _ _ _,_,_,_,_⟩::_) _ _);refine wpList_buildSlice rfl 36 38 1 _ rfl (aD p) j0 _ Nd hj0 hw0 (by rw[hw1];decide) (by rw[hw1];decide) (by rw[hw1];exact wM rfl) ?_))
  go_ret;exact⟨_,1,1,rfl,by rw[HE.out];exact Dr (aG.Ii rfl),by decide,BE.out.alloc BE.out.size _⟩
end
abbrev IL.v(h:IL):Value:=.slice h.A h.n h.c
structure LB(w:World)(g:Nat)(ls:List IL):Prop where
 b:aG w g 63 (ls.map IL.v).toArray
 el:∀h∈ls,SI w h.A h.n h.c h.ys
section
variable {ys:List ByteArray} {b c i g n size:Nat} {a x:Int} {w w' w1:World} {A:Option Addr} {v:Value}
theorem LB.step{w w':World}{g:Nat}{ls:List IL}(h:LB w g ls)(hb:Below w.heap.size w w'):LB w' g ls:=⟨h.b.step hb,fun x hx=>(h.el x hx).step hb⟩
theorem LB.all{w:World}{g:Nat}{ls:List IL}(h:LB w g ls):uD w g:=fun off v hv=>by
 rw[h.b.cell,MN,KP] at hv;obtain⟨x,_,rfl⟩:=LR.1 hv;exact⟨_,_,_,rfl⟩
theorem lI{w:World}{a:Addr}{u:Value}:(w.setCell a u).heap.size=w.heap.size:=by unfold World.setCell;simp
theorem SI.set{w:World}{g:Nat}{ls:List IL}(h:LB w g ls)(h0:0<g){A:Option Addr}{n c:Nat}{ys:List PI}(hs:SI w A n c ys)(i:Nat)(u:Value):SI (w.setCell ⟨g,i,none⟩ u) A n c ys:=
 hs.Ip h0 h.all (fun b hb _=>Ku w ⟨g,i,none⟩ u b hb) (by rw[lI];exact qL)
theorem LB.set{w:World}{g:Nat}{ls:List IL}(h:LB w g ls)(h0:0<g){x:IL}(hs:SI w x.A x.n x.c x.ys)(i:Nat):LB (w.setCell ⟨g,i,none⟩ (.slice x.A x.n x.c)) g (ls.set i x):=by
 refine⟨?_,fun y hy=>?_⟩
 ·have:=h.b.Ij i (.slice x.A x.n x.c);rw[List.setIfInBounds_toArray] at this;rw[List.map_set];exact this
 ·rcases List.mem_or_eq_of_mem_set hy with hy|rfl
  ·exact SI.set h h0 (h.el y hy) i _
  ·exact SI.set h h0 hs i _
theorem LB.at{w:World}{g:Nat}{ls:List IL}(h:LB w g ls){i:Nat}{x:IL}(hx:ls[i]?=some x):w.cell? ⟨g,i,none⟩=some (.slice x.A x.n x.c):=by
 rw[h.b.cell,MN,KP,hx];rfl
theorem LB.bl{w:World}{g n:Nat}{ls:List IL}(h:LB w g ls)(hn:n=ls.length)(hz:n*24<=aH):BL w (some ⟨g,0,none⟩) n n ls:=
 ⟨⟨hn,qL,fun _=>⟨g,0,rfl,h.b.lt,fun i x hi j v hj=>by
  match j,hj with
  | 0,hj=>
   simp[Bh] at hj
   subst hj
   rw[Jw,My,MG]
   exact h.at hi
    | j+1,hj=>simp[Bh] at hj⟩⟩,hz,h.el⟩
theorem SR.Jg{w w1:World}{g:Nat}(hg:uD w g)(hk:∀b,b≠g->b<w.heap.size->w1.heap[b]?=w.heap[b]?)(hs:w.heap.size<=w1.heap.size){A:Option Addr}{n c:Nat}{ks:List aX}(h:SR 25 aq w A n c ks):SR 25 aq w1 A n c ks:=by
 refine⟨h.ln,h.lc,fun hn=>?_⟩;obtain⟨b,off,e,hl,hc⟩:=h.el hn
 have hb:b≠g:=by
  rintro rfl;obtain⟨p,hp⟩:∃p,ks[0]?=some p:=⟨_,Jv (by have:=h.ln;omega)⟩;obtain⟨A,n,k,e⟩:=hg _ _ (hc 0 p hp 0 _ rfl);cases e
 exact⟨b,off,e,by omega,fun i p hi j v hj=>by rw[Kh (hk b hb hl)];exact hc i p hi j v hj⟩
theorem Ds(n:Nat):madeCells #[.slice none 0 0] n=((List.replicate n IL.nil).map IL.v).toArray:=by
 refine Array.ext_getElem? fun i=>?_;by_cases h:i<n
 ·simp[madeCells,h,Nat.mod_one,IL.nil,List.getElem?_replicate]
 ·simp[madeCells,h,List.getElem?_replicate]
end
structure FI(w:World)(x:Ap)(p:aX)(ls:List IL)(wr:World):Prop where
 b3:aG wr w.heap.size 111 (ng x)
 b5:aG wr (w.heap.size+1) 38 (aD p)
 lb:LB wr (w.heap.size+2) ls
 ln:ls.length=x.kn
 bel:Below w.heap.size w wr
section
variable {l xs ys:List ByteArray} {c k i g n j q size:Nat} {op x y:Int} {w w' wr W:World} {A:Option Addr} {e:TypeId} {P:Program} {v:Value}
theorem FI.step{w wr w':World}{x:Ap}{p:aX}{ls:List IL}(h:FI w x p ls wr)(hb:Below wr.heap.size wr w'):FI w x p ls w':=⟨h.b3.step hb,h.b5.step hb,h.lb.step hb,h.ln,h.bel.Ih hb⟩
theorem FI.set{w wr:World}{x:Ap}{p:aX}{ls:List IL}(h:FI w x p ls wr){q:IL}(hs:SI wr q.A q.n q.c q.ys)(i:Nat):FI w x p (ls.set i q) (wr.setCell ⟨w.heap.size+2,i,none⟩ (.slice q.A q.n q.c)):=
 ⟨h.b3.Ip (by simp) _,h.b5.Ip (by simp) _,h.lb.set (by omega) hs i,by rw[Nx];exact h.ln,h.bel.setCell (by simp) _⟩
theorem FI.Jh{w wr:World}{x:Ap}{p:aX}{ls:List IL}(h:FI w x p ls wr){A:Option Addr}{n c:Nat}{ks:List aX}(hs:SR 25 aq wr A n c ks)(i:Nat)(u:Value):SR 25 aq (wr.setCell ⟨w.heap.size+2,i,none⟩ u) A n c ks:=
 hs.Jg h.lb.all (fun b hb _=>Ku wr ⟨w.heap.size+2,i,none⟩ u b hb) (by rw[lI];exact qL)
theorem wN{α:Type}{l:List α}{i j:Nat}{x y:α}(hl:i<l.length)(h:(l.set i x)[j]?=some y):(j=i/\y=x)\/(j≠i/\l[j]?=some y):=by
 rw[List.getElem?_set] at h;by_cases e:i=j
 ·rw[Kb e,Kb hl] at h;exact .inl ⟨e.symm,(MW h).symm⟩
 ·rw[KU e] at h;exact .inr ⟨fun k=>e k.symm,h⟩
theorem qy{α:Type}{l:List α}{i:Nat}{q:α}(f:α->Bool)(h:l[i]?=some q):(l.take (i+1)).any f=((l.take i).any f||f q):=by
 rw[Le,h,Om];simp
theorem Bq{α:Type}{l:List α}{i:Nat}{q:α}(f:α->Bool)(h:l[i]?=some q):(l.take (i+1)).all f=((l.take i).all f&&f q):=by
 rw[Le,h,NU];simp
theorem zb{p k:aX}(h:kS p)(hk:k∈aj p):kS k:=by
 unfold aj at hk;split at hk
 ·rename_i h20
  exact h.open.kids (.inl h20) k hk
 ·simp at hk;subst hk;exact h
theorem Br{w:World}{p k:aX}(h:WP w p)(hk:k∈aj p):WP w k:=by
 unfold aj at hk;split at hk
 ·exact h.open.kids k hk
 ·simp at hk;subst hk;exact h
theorem Dt(x:Ap)(mu:Bool)(p:aX)(w:World)(hT:cY w)(hx:IJ w x)(hw:WP w p)(hv:kS p)(hz:p.sz<=100000000):
 Calls prog 60 #[GQ x,.bool mu,aW p] w (GS (qM x.kind mu x.ks p) (p.sz+1) w):=by
 obtain⟨j0,hj0,hz0,hz1,hz2⟩:=LM Bp;have HT:=qD hT;have HK:=qD hx.ks;have HN:=qD hx.ks.ln;have HWP:=qD hw;have HZ:=qD hz;have hkz:x.kn<=4398046511104:=by obtain⟨os,h⟩:=hx.ks;have:=h.sz;unfold aH at this;omega
 have HO:Hid (∀k,(k=p\/k∈aj p)->∀(A:Option Addr) (n c:Nat) (l:List ByteArray) (wr:World),Below w.heap.size w wr->ST wr A n c l->Calls prog 22 #[aW k,.slice A n c] wr (dD (dW l k) k.sz wr)):=qD fun k hk A n c l wr hb hl=>by
  have h1:WP w k/\kS k/\k.sz<=p.sz:=by
   rcases hk with rfl|hk
   ·exact⟨hw,hv,qL⟩
   ·exact⟨Br hw hk,zb hv hk,KM (xR hk) nD⟩
  exact nJ k A n c l wr (h1.1.step hb) h1.2.1 (HT.out.step hb) hl (by have:=h1.2.2;omega)
 have hmk:=eV (P:=prog) 107 63 j0 (.slice none 0 0) underlying107 hj0 hz0 x.kn (by rw[hz2];omega) (by omega);rw[hz1,My] at hmk
 have I0:Hid (FI w x p (List.replicate x.kn IL.nil) (((w.alloc (.cells (ng x) 111)).alloc (.cells (aD p) 38)).alloc (.cells (madeCells #[.slice none 0 0] x.kn) 63))):=by
  rw[Ds];exact qD ⟨((aG.Ii rfl).alloc _).alloc _,(aG.Ii (by simp)).alloc _,⟨aG.Ii (by simp),fun h hh=>by obtain⟨_,rfl⟩:=List.mem_replicate.1 hh;exact⟨SR.nil,KD _,fun x hx=>by cases hx⟩⟩,by simp,(((Ju _ _).alloc (qL) _).alloc (by simp) _).alloc (by simp;omega) _⟩
 have HIX:=qD (ig (I0.out.b3.step (Ju _ _)));clear hT hx hw hv hz HIX;have B0:Hid (aG ((w.alloc (.cells (ng x) 111)).alloc (.cells (aD p) 38)) w.heap.size 111 (ng x)):=(aG.Ii rfl).alloc _;go_enter func60,ntmps60;go_upto_region 1 with fail
 obtain⟨_,_,d2,_,_,_⟩:=ig B0.out;go_upto_region 2 with fail
 change Code.wp _ _ _ _ (((w.alloc (.cells (ng x) 111)).alloc (.cells (aD p) 38)).alloc (.cells (madeCells #[.slice none 0 0] x.kn) 63));clear d2 B0 hmk;generalize ((w.alloc (.cells (ng x) 111)).alloc (.cells (aD p) 38)).alloc (.cells (madeCells #[.slice none 0 0] x.kn) 63)=wa at*;go_upto_region 3 with fail
 go_loopw [9,28] (fun _ v wr=>∃(i:Nat) (ls:List IL),i<=x.kn/\v=.int .i64 i/\FI w x p ls wr/\∀j h,j<i->ls[j]?=some h->Bi eD 1 h) (fun _ v _=>x.kn-(intOf v).toNat)
 ·exact⟨0,_,KD _,rfl,I0.out,fun j h hj=>absurd hj (Ny _)⟩
 case round=>
  clear I0;obtain⟨i,ls,hi,rfl,hI,hal⟩:=hrel;have I:=qD hI;have HAL:=qD hal;clear hI hal;by_cases hlt:i<x.kn
  ·obtain⟨h9,hh9⟩:∃h,ls[i]?=some h:=⟨_,Jv (by have:=I.out.ln;omega)⟩;have i0:(0:Int)<=(i:Int):=by omega
   have i1:(i:Int)<(x.kn:Int):=by omega
   go_wp2_with fail;refine(eW wr).mono ?_;rintro e w3 ⟨A9,m9,c9,zs,nf9,rfl,hy,hnf,hmk,hsi,hb3,hfr⟩;have J:=qD (I.out.step hb3);have e9:=J.out.lb.at hh9;have gz:=J.out.lb.b.frozen i;have HN9:Hid (Bi eD 1 ⟨A9,m9,c9,zs⟩):=qD ⟨⟨nf9,hy,hnf⟩,by have:=hsi.sr.ln;show zs.length<=1;omega⟩;have K:=qD (J.out.set (q:=⟨A9,m9,c9,zs⟩) hsi i);have HLL:=qD J.out.ln;clear hy hnf hmk hsi hb3 hfr hh9;go_wp2_with fail;go_roundw
   case rel=>exact⟨i+1,_,hlt,by go_num,K.out,fun j h hj hh=>by
    rcases wN (by have:=HLL.out;omega) hh with⟨_,rfl⟩|⟨hne,hh⟩
    ·exact HN9.out
    ·exact HAL.out j h (by omega) hh⟩
   case measure=>simp[intOf];omega
  ·obtain rfl:i=x.kn:=by omega
   have d1:=(ig I.out.b3).d1;have HBL:Hid (∀(ls:List IL) (wq:World),FI w x p ls wq->BL wq (some ⟨w.heap.size+2,0,none⟩) x.kn x.kn ls):=qD fun ls wq h=>h.lb.bl h.ln.symm (by unfold aH;omega);clear hlt;by_cases hkd:x.kind=1;rotate_left
   ·have hb:(x.kind != 1)=true:=by simpa using hkd
    have HR:=qD (vx hkd mu x.ks p);clear hkd;go_wp2_with fail;go_ret2;rw[HR.out];refine⟨_,_,_,ls,rfl,HBL.out _ _ I.out,?_,I.out.bel⟩;refine⟨by rw[KX,I.out.ln,HN.out],fun j S h hS hh=>?_⟩;rw[KP] at hS;obtain⟨o,ho,rfl⟩:=LR.1 hS;have h1:=HAL.out j h (by have:=(KF.1 hh).1;have:=I.out.ln;omega) hh;exact⟨h1.nf,by have:=h1.le;omega⟩
   have hb:(x.kind != 1)=false:=by simp[hkd]
   have HKD:=qD hkd;clear hkd;cases mu;rotate_left
   ·have d2:=(ig I.out.b3).d2;have HR:Hid (qM x.kind true x.ks p=(x.ks.map fun o=>(dW o.p p).1,(x.ks.any fun o=>(dW o.p p).2)&&decide ((aj p).length=1))):=by rw[Hid,HKD.out];exact vy x.ks p
    go_upto_region 12 with fail
    go_loopw [10,11,12,13,44] (fun v10 _ _ _ v wr=>∃(i:Nat) (b:Bool) (ls:List IL),i<=x.kn/\v=.int .i64 i/\v10=.bool b/\FI w x p ls wr/\(∀(j:Nat) (o:Od) (h:IL),j<i->x.ks[j]?=some o->ls[j]?=some h->Bi (dW o.p p).1 (p.sz+1) h)/\b=(x.ks.take i).any fun o=>(dW o.p p).2) (fun _ _ _ _ v _=>x.kn-(intOf v).toNat)
    ·exact⟨0,false,ls,KD _,rfl,rfl,I.out,fun j o h hj=>absurd hj (Ny _),rfl⟩
    case round=>
     clear I HAL d1 d2 hi;obtain⟨i,b,ls,hi,rfl,rfl,hI,hal,hbe⟩:=hrel;have I:=qD hI;have HAL:=qD hal;have HBE:=qD hbe;clear hI hal hbe;by_cases hlt:i<x.kn
     ·obtain⟨os,hos⟩:=HK.out;obtain⟨kb,off,o,hA,hkb,ho,e0,e1⟩:=hos.sr.Jn hlt;obtain⟨q,hq⟩:∃q,x.ks[i]?=some q:=⟨_,Jv (by have:=HN.out;omega)⟩;have HST:=qD (hos.el i o q ho hq).st;have HQ:=qD hq;obtain⟨h9,hh9⟩:∃h,ls[i]?=some h:=⟨_,Jv (by have:=I.out.ln;omega)⟩;have ew:=(I.out.bel.cell (p:=⟨kb,off+i*2,none⟩) hkb).trans e0;have ew1:=(I.out.bel.cell (p:=⟨kb,off+i*2+1,none⟩) hkb).trans e1;have i0:(0:Int)<=(i:Int):=by omega
      have i1:(i:Int)<(x.kn:Int):=by omega
      rw[hA];clear hos ho hq e0 e1 hA;go_upto_region 15 with fail
      change Code.wp _ _ _ _ (wr.alloc (.cells #[.slice o.A o.n o.c,.bool o.d] 70));have JB:Hid (aG (wr.alloc (.cells #[.slice o.A o.n o.c,.bool o.d] 70)) wr.heap.size 70 #[.slice o.A o.n o.c,.bool o.d]):=aG.Ii rfl;have J:=qD (I.out.step ((Ju wr.heap.size wr).alloc (qL) (Obj.cells #[.slice o.A o.n o.c,.bool o.d] 70)));generalize wr.alloc (.cells #[.slice o.A o.n o.c,.bool o.d] 70)=wb at*;generalize wr.heap.size=ga at*;clear ew ew1 I;have o0:=JB.out.cell 0;simp at o0;have RF:=qD (ae J.out.b5);obtain⟨z,hz⟩:∃z,z=(dW q.p p).2:=⟨_,rfl⟩;have HZZ:=qD hz;clear hz;have hbz:(b||z)=((x.ks.take (i+1)).any fun o=>(dW o.p p).2):=by rw[qy _ HQ.out,<-HBE.out,<-HZZ.out]
      have HBZ:=qD hbz;have HOF:=qD (HO.out p (.inl rfl) o.A o.n o.c q.p wb J.out.bel (HST.out.step J.out.bel));clear hbz HBE;go_wp2_with ((with_reducible show wpList _ _ _ (⟨_,.load 38 _,_,_,_,_⟩::_) _ _);refine aE rfl 38 _ rfl (w.heap.size+1) 0 rfl _ _ RF.out KH rfl (by kernel_rfl) ?_);refine HOF.out.mono ?_;rintro e w5 ⟨A3,m3,c3,ys,nf,rfl,hy,hnf,hmk,hsi,hb3,hfr⟩;rw[<-HZZ.out];have K:=qD (J.out.step hb3);have e9:=K.out.lb.at hh9;have gz:=K.out.lb.b.frozen i;have HN9:Hid (Bi (dW q.p p).1 (p.sz+1) ⟨A3,m3,c3,ys⟩):=qD ⟨⟨nf,hy,hnf⟩,by have:=hsi.sr.ln;show ys.length<=_;omega⟩;have L:=qD (K.out.set (q:=⟨A3,m3,c3,ys⟩) hsi i);have HLL:=qD K.out.ln
      have HG:Hid (∀(j:Nat) (o:Od) (h:IL),j<i+1->x.ks[j]?=some o->(ls.set i ⟨A3,m3,c3,ys⟩)[j]?=some h->Bi (dW o.p p).1 (p.sz+1) h):=qD fun j o h hj ho hh=>by
       rcases wN (by have:=HLL.out;omega) hh with⟨rfl,rfl⟩|⟨hne,hh⟩
       ·have:=HQ.out;rw[ho] at this;cases this;exact HN9.out
       ·exact HAL.out j o h (by omega) ho hh
      clear hy hnf hmk hsi hb3 hfr hh9 RF HOF o0 J JB HAL HN9 HZZ HST;cases b
      ·go_wp2_with fail;go_roundw
       ·exact⟨i+1,z,_,hlt,by go_num,rfl,L.out,HG.out,HBZ.out⟩
       ·simp[intOf];omega
      ·go_wp2_with fail;go_roundw
       ·exact⟨i+1,true,_,hlt,by go_num,rfl,L.out,HG.out,HBZ.out⟩
       ·simp[intOf];omega
     ·obtain rfl:i=x.kn:=by omega
      have hbe:=HBE.out;rw[KL (by have:=HN.out;omega)] at hbe;have HB9:=qD hbe
      have HNF:Hid (Hk (x.ks.map fun o=>(dW o.p p).1) (p.sz+1) ls):=qD ⟨by rw[KX,I.out.ln,HN.out],fun j S h hS hh=>by
       rw[KP] at hS
       obtain⟨o,ho,rfl⟩:=LR.1 hS
       exact HAL.out j o h (by have:=(KF.1 hh).1;have:=I.out.ln;omega) ho hh⟩
      clear hbe hlt HBE HAL;cases b
      ·go_wp2_with fail;go_ret2;rw[HR.out];refine⟨_,_,_,ls,?_,HBL.out _ _ I.out,HNF.out,I.out.bel⟩;rw[<-HB9.out];rfl
      ·have RF:=qD (ae I.out.b5);have HPA:=qD (kt p wr (HWP.out.step I.out.bel));by_cases h1:(aj p).length=1
       ·have HE:Hid (decide ((aj p).length=1)=true):=qD (Jy h1);go_wp2_with ((with_reducible show wpList _ _ _ (⟨_,.load 38 _,_,_,_,_⟩::_) _ _);refine aE rfl 38 _ rfl (w.heap.size+1) 0 rfl _ _ RF.out KH rfl (by kernel_rfl) ?_);refine HPA.out.mono ?_;rintro e w5 ⟨A3,n3,c3,rfl,hsr,hz3,hb3⟩;obtain rfl:n3=1:=by rw[hsr.ln];exact h1
        have K:=qD (I.out.step hb3);clear hsr hz3 hb3 RF HPA h1;go_wp2_with fail;go_ret2;rw[HR.out];refine⟨_,_,_,ls,?_,HBL.out _ _ K.out,HNF.out,K.out.bel⟩;rw[<-HB9.out,HE.out];rfl
       ·have HE:Hid (decide ((aj p).length=1)=false):=qD (KQ h1);go_wp2_with ((with_reducible show wpList _ _ _ (⟨_,.load 38 _,_,_,_,_⟩::_) _ _);refine aE rfl 38 _ rfl (w.heap.size+1) 0 rfl _ _ RF.out KH rfl (by kernel_rfl) ?_);refine HPA.out.mono ?_;rintro e w5 ⟨A3,n3,c3,rfl,hsr,hz3,hb3⟩;have hne:((n3:Int)==1)=false:=by have:=hsr.ln;simp;omega
        have K:=qD (I.out.step hb3);clear hsr hz3 hb3 RF HPA h1;go_wp2_with fail;go_ret2;rw[HR.out];refine⟨_,_,_,ls,?_,HBL.out _ _ K.out,HNF.out,K.out.bel⟩;rw[<-HB9.out,HE.out];rfl
   ·have HR:Hid (qM x.kind false x.ks p=(x.ks.map fun o=>kC o.p (aj p),(aj p).all fun k=>x.ks.any fun o=>(dW o.p k).2)):=by rw[Hid,HKD.out];exact ot x.ks p
    have RF:=qD (ae I.out.b5);have HPA:=qD (kt p wr (HWP.out.step I.out.bel))
    go_upto_region 21 with(first
     | ((with_reducible show wpList _ _ _ (⟨_,.load 38 _,_,_,_,_⟩::_) _ _);refine aE rfl 38 _ rfl (w.heap.size+1) 0 rfl _ _ RF.out KH rfl (by kernel_rfl) ?_)
     | (go_at_call 127;refine HPA.out.mono ?_;rintro e w5 ⟨PA,pn,pc,rfl,hsr,hpz,hb3⟩))
    have I5:=qD (I.out.step hb3);have HPS:=qD hsr;have HPL:=qD hsr.ln;have hpn:pn<=351843720888:=by unfold aH at hpz;omega
    have hpn':(pn:Int)<=351843720888:=by omega
    clear hsr hpz hb3 RF HPA I d1 hi
    go_loopw [14,75] (fun v14 v wr=>∃(j:Nat) (b:Bool) (ls:List IL),j<=pn/\v=.int .i64 j/\v14=.bool b/\FI w x p ls wr/\SR 25 aq wr PA pn pc (aj p)/\(∀(i:Nat) (o:Od) (h:IL),x.ks[i]?=some o->ls[i]?=some h->Bi (kC o.p ((aj p).take j)) (1+aX.sz.szL ((aj p).take j)) h)/\b=((aj p).take j).all fun k=>x.ks.any fun o=>(dW o.p k).2) (fun _ v _=>pn-(intOf v).toNat)
    case atStart=>
     refine⟨0,true,ls,KD _,rfl,rfl,I5.out,HPS.out,fun i o h ho hh=>?_,rfl⟩;rw[Lp,Bj];have h1:=HAL.out i h (by have:=(KF.1 hh).1;have:=I5.out.ln;omega) hh;exact⟨h1.nf,by have:=h1.le;omega⟩
    case round=>
     clear I5 HAL HPS;obtain⟨j,b,ls,hj,rfl,rfl,hI,hps,hal,hbe⟩:=hrel;have I:=qD hI;have HPS:=qD hps;have HAL:=qD hal;have HBE:=qD hbe;clear hI hps hal hbe;by_cases hlt:j<pn
     ·obtain⟨b5,off5,k,hA,hkb,hx,hm,hrg⟩:=HPS.out.row hlt;have RG:=qD hrg;have HX:=qD hx;have HMK:=qD hm;have HTS:Hid ((aj p).take (j+1)=(aj p).take j++[k]):=by rw[Hid,Le,hx];rfl
      have HSZ:Hid (aX.sz.szL ((aj p).take (j+1))=aX.sz.szL ((aj p).take j)+k.sz):=qD (pS _ _ hx);have HLE:Hid (aX.sz.szL ((aj p).take (j+1))<=p.sz):=qD (KM (kR _ _) nD);have j0':(0:Int)<=(j:Int):=by omega
      have j1':(j:Int)<(pn:Int):=by omega
      subst hA;clear hrg hx hm hkb
      go_upto_region 23 with(first
       | ((with_reducible show wpList _ _ _ (⟨_,.load 38 _,_,_,_,_⟩::_) _ _);refine aE rfl 38 _ rfl b5 (off5+j*25) rfl _ _ RG.out KH rfl (by kernel_rfl) ?_)
       | ((with_reducible show wpList _ _ _ (⟨_,.store 38 _ _,_,_,_,_⟩::_) _ _);refine LD rfl 38 _ _ rfl wr.heap.size (aD k) rfl rfl 38 _ (aG.Ii rfl) (by kernel_rfl) rfl (cZ k) ?_;refine cR ?_;intro w4 hw4;have KB:Hid (aG w4 wr.heap.size 38 (aD k)):=(by rw[Hid,hw4];exact bY (aG.Ii rfl) _);have BW4:Hid (Below wr.heap.size wr w4):=(by rw[Hid,hw4];exact bZ ((Ju _ _).alloc (qL) _) (qL) _);clear hw4 RG))
      have HGK:Hid (w.heap.size+2<wr.heap.size):=qD I.out.lb.b.lt;replace I:=qD (I.out.step BW4.out);replace HPS:=qD (HPS.out.step BW4.out);generalize wr.heap.size=gk at*;clear BW4;have d2:=(ig I.out.b3).d2;go_upto_region 25 with fail
      go_loopw [17,82] (fun v17 v w6=>∃(i:Nat) (c:Bool) (ls:List IL),i<=x.kn/\v=.int .i64 i/\v17=.bool c/\FI w x p ls w6/\SR 25 aq w6 (some ⟨b5,off5,none⟩) pn pc (aj p)/\aG w6 gk 38 (aD k)/\(∀(i':Nat) (o:Od) (h:IL),x.ks[i']?=some o->ls[i']?=some h->Bi (kC o.p ((aj p).take (if i'<i then j+1 else j))) (1+aX.sz.szL ((aj p).take (if i'<i then j+1 else j))) h)/\c=(x.ks.take i).any fun o=>(dW o.p k).2) (fun _ v _=>x.kn-(intOf v).toNat)
      case atStart=>
       refine⟨0,false,ls,KD _,rfl,rfl,I.out,HPS.out,KB.out,fun i o h ho hh=>?_,rfl⟩;rw[KU (Ny _)];exact HAL.out i o h ho hh
      case round=>
       clear I HPS KB HAL d2;obtain⟨i,c,ls,hi,rfl,rfl,hI,hps,hkb,hal,hce⟩:=hrel;have I:=qD hI;have HPS:=qD hps;have KB:=qD hkb;have HAL:=qD hal;have HCE:=qD hce;clear hI hps hkb hal hce;by_cases hli:i<x.kn
       ·obtain⟨os,hos⟩:=HK.out;obtain⟨kb,off,o,hA,hkb,ho,e0,e1⟩:=hos.sr.Jn hli;obtain⟨q,hq⟩:∃q,x.ks[i]?=some q:=⟨_,Jv (by have:=HN.out;omega)⟩;have HST:=qD (hos.el i o q ho hq).st;have HQ:=qD hq;obtain⟨h9,hh9⟩:∃h,ls[i]?=some h:=⟨_,Jv (by have:=I.out.ln;omega)⟩;have HH9:=qD hh9;have hn9:=HAL.out i q h9 hq hh9;rw[KU (On _)] at hn9;have HN9:=qD hn9;have d2:=(ig I.out.b3).d2;have ew:=(I.out.bel.cell (p:=⟨kb,off+i*2,none⟩) hkb).trans e0;have ew1:=(I.out.bel.cell (p:=⟨kb,off+i*2+1,none⟩) hkb).trans e1;have i0:(0:Int)<=(i:Int):=by omega
        have i1:(i:Int)<(x.kn:Int):=by omega
        rw[hA];clear hos ho hq e0 e1 hA hh9 hn9 d2;go_upto_region 27 with fail
        change Code.wp _ _ _ _ (wr.alloc (.cells #[.slice o.A o.n o.c,.bool o.d] 70));have JB:Hid (aG (wr.alloc (.cells #[.slice o.A o.n o.c,.bool o.d] 70)) wr.heap.size 70 #[.slice o.A o.n o.c,.bool o.d]):=aG.Ii rfl;have BW6:=(Ju wr.heap.size wr).alloc (qL) (Obj.cells #[.slice o.A o.n o.c,.bool o.d] 70);have J:=qD (I.out.step BW6);have JPS:=qD (HPS.out.step BW6);have JK:=qD (KB.out.step BW6);generalize wr.alloc (.cells #[.slice o.A o.n o.c,.bool o.d] 70)=wb at*;generalize wr.heap.size=ga at*;clear ew ew1 I HPS KB BW6;have o0:=JB.out.cell 0;simp at o0;have RF:=qD (ae JK.out);obtain⟨z,hz⟩:∃z,z=(dW q.p k).2:=⟨_,rfl⟩;have HZZ:=qD hz;clear hz;have HBZ:Hid ((c||z)=((x.ks.take (i+1)).any fun o=>(dW o.p k).2)):=by rw[Hid,qy _ HQ.out,<-HCE.out,<-HZZ.out]
        have HOF:=qD (HO.out k (.inr HMK.out) o.A o.n o.c q.p wb J.out.bel (HST.out.step J.out.bel));clear HCE
        go_upto_region 28 with(first
         | ((with_reducible show wpList _ _ _ (⟨_,.load 38 _,_,_,_,_⟩::_) _ _);refine aE rfl 38 _ rfl gk 0 rfl _ _ RF.out KH rfl (by kernel_rfl) ?_)
         | (go_at_call 22;refine HOF.out.mono ?_;rintro e w5 ⟨A3,m3,c3,ys,nf,rfl,hy,hnf,hmk,hsi,hb3,hfr⟩;rw[<-HZZ.out]))
        have K:=qD (J.out.step hb3);have KPS:=qD (JPS.out.step hb3);have KK:=qD (JK.out.step hb3);have HS9:=qD (K.out.lb.el h9 (Jx HH9.out));have HS3:=qD hsi;have e9:=K.out.lb.at HH9.out;have HY:=qD hy;have HNF:=qD hnf;have HM3:=qD hmk;clear hy hnf hmk hsi hb3 hfr RF HOF o0 J JPS JK JB HST
        have HME:Hid (Calls prog 128 #[.slice h9.A h9.n h9.c,.slice A3 m3 c3] w5 (oY (fun a=>kC q.p ((aj p).take j) a/\(dW q.p k).1 a) (h9.n+m3) w5)):=by
         obtain⟨⟨nf9,hy9,hnf9⟩,hle9⟩:=HN9.out;have hl9:=HS9.out.sr.ln;have h1:=HSZ.out;have h2:=HLE.out;have h3:=HZ.out;have h4:=HM3.out;exact qD (qp h9.ys ys h9.A A3 h9.n h9.c m3 c3 w5 (HT.out.step K.out.bel) HS9.out HS3.out hy9 HY.out hnf9 HNF.out (by omega) (by omega))
        go_wp2_with fail;refine HME.out.mono ?_;rintro e w7 ⟨A4,m4,c4,zs,nf4,rfl,hy,hnf,hmk,hsi,hb3⟩;have L:=qD (K.out.step hb3);have LPS:=qD (KPS.out.step hb3);have LK:=qD (KK.out.step hb3);replace e9:=L.out.lb.at HH9.out;have gz:=L.out.lb.b.frozen i
        have HN4:Hid (Bi (kC q.p ((aj p).take (j+1))) (1+aX.sz.szL ((aj p).take (j+1))) ⟨A4,m4,c4,zs⟩):=by
         refine qD ⟨⟨nf4,hy,?_⟩,?_⟩
         ·rw[HTS.out,zT];exact hnf
         ·have h1:=HSZ.out;have h2:=HN9.out.le;have h3:=HS9.out.sr.ln;have h4:=HM3.out;have h5:=hsi.sr.ln;show zs.length<=_;omega
        have M:=qD (L.out.set (q:=⟨A4,m4,c4,zs⟩) hsi i);have MPS:=qD (L.out.Jh LPS.out i (.slice A4 m4 c4));have MK:=qD (LK.out.Ip (p:=⟨w.heap.size+2,i,none⟩) (by have:=HGK.out;show gk≠w.heap.size+2;omega) (.slice A4 m4 c4));have HLL:=qD L.out.ln
        have HG:Hid (∀(i':Nat) (o:Od) (h:IL),x.ks[i']?=some o->(ls.set i ⟨A4,m4,c4,zs⟩)[i']?=some h->Bi (kC o.p ((aj p).take (if i'<i+1 then j+1 else j))) (1+aX.sz.szL ((aj p).take (if i'<i+1 then j+1 else j))) h):=qD fun i' o h ho hh=>by
         rcases wN (by have:=HLL.out;omega) hh with⟨rfl,rfl⟩|⟨hne,hh⟩
         ·rw[Kb (Km _)];have:=HQ.out;rw[ho] at this;cases this;exact HN4.out
         ·have h1:=HAL.out i' o h ho hh;by_cases hlt2:i'<i
          ·rw[Kb hlt2] at h1;rw[Kb (by omega)];exact h1
          ·rw[KU hlt2] at h1;rw[KU (by omega)];exact h1
        clear hy hnf hmk hsi hb3 HME HS9 HS3 HY HNF HM3 K KPS KK L LPS LK HAL HN9 HZZ HN4 HH9;cases c
        ·go_wp2_with fail;go_roundw
         ·exact⟨i+1,z,_,hli,by go_num,rfl,M.out,MPS.out,MK.out,HG.out,HBZ.out⟩
         ·simp[intOf];omega
        ·go_wp2_with fail;go_roundw
         ·exact⟨i+1,true,_,hli,by go_num,rfl,M.out,MPS.out,MK.out,HG.out,HBZ.out⟩
         ·simp[intOf];omega
       ·obtain rfl:i=x.kn:=by omega
        have hce:=HCE.out;rw[KL (by have:=HN.out;omega)] at hce;have HC9:Hid ((b&&c)=(((aj p).take (j+1)).all fun k=>x.ks.any fun o=>(dW o.p k).2)):=by rw[Hid,Bq _ HX.out,<-HBE.out,hce]
        have HG:Hid (∀(i:Nat) (o:Od) (h:IL),x.ks[i]?=some o->ls[i]?=some h->Bi (kC o.p ((aj p).take (j+1))) (1+aX.sz.szL ((aj p).take (j+1))) h):=qD fun i o h ho hh=>by
         have h1:=HAL.out i o h ho hh
         rwa [Kb (by have:=(KF.1 hh).1;have:=I.out.ln;omega)] at h1
        clear hce HCE HBE HAL hli KB;cases b
        ·go_wp2_with fail;go_roundw
         ·exact⟨j+1,false,ls,hlt,by go_num,rfl,I.out,HPS.out,HG.out,HC9.out⟩
         ·simp[intOf];omega
        ·go_wp2_with fail;go_roundw
         ·exact⟨j+1,c,ls,hlt,by go_num,rfl,I.out,HPS.out,HG.out,HC9.out⟩
         ·simp[intOf];omega
     ·obtain rfl:j=pn:=by omega
      have hbe:=HBE.out;have htl:(aj p).take j=aj p:=KL (by have:=HPL.out;omega);rw[htl] at hbe;have HB9:=qD hbe
      have HNF:Hid (Hk (x.ks.map fun o=>kC o.p (aj p)) (p.sz+1) ls):=qD ⟨by rw[KX,I.out.ln,HN.out],fun i S h hS hh=>by
       rw[KP] at hS
       obtain⟨o,ho,rfl⟩:=LR.1 hS
       have h1:=HAL.out i o h ho hh
       rw[htl] at h1
       exact⟨h1.nf,by have:=h1.le;have:=nD (p:=p);omega⟩⟩
      clear hbe hlt HBE HAL htl;go_wp2_with fail;go_ret2;rw[HR.out];refine⟨_,_,_,ls,?_,HBL.out _ _ I.out,HNF.out,I.out.bel⟩;rw[<-HB9.out];rfl
theorem wO(xs:List ByteArray)(A:Option Addr)(n c:Nat)(w:World)(h:SR 1 bv w A n c xs)(hn:n*16<=aH):
 Calls prog 224 #[.slice A n c] w fun e w'=>∃v,e=.returned v/\w'.ownsRow w.heap.size 9 1 v n (aO bv xs)/\Below w.heap.size w w':=by
 obtain⟨j0,hj0,hy0,hy1,hy2⟩:=LM fx;have HL:=qD h.ln;unfold aH at hn;cases A with
 | none=>
  have h0:n=0:=by
   rcases LH n with h0|h0
   ·exact h0
   ·obtain⟨b,off,e,_⟩:=h.el h0;cases e
  subst h0;have HX:Hid (xs=[]):=KN HL.out.symm;clear h;have kn:=fun(w:World)=>MO (P:=prog) w 25 9 none 0 c 0 0 Kr;go_enter func224,ntmps224;go_wp2_with fail;go_ret;exact⟨_,rfl,by rw[HX.out];exact bX _ _ _ _,Ju _ _⟩
 | some ad=>
  have HR:=qD (h.reads ez (by omega))
  have hO:(w.alloc (.cells #[] 9)).ownsRow w.heap.size 9 1 (.slice (some ⟨w.heap.size,0,none⟩) 0 0) 0 []:=
   ⟨rfl,.inr ⟨w.heap.size,0,#[],rfl,qL,aG.Ii rfl,qL,KD _,rfl,rfl⟩⟩
  have HO:=qD hO;have H1:=qD (fy uF xs);clear h hO;have kn:=fun(w:World)=>MO (P:=prog) w 25 9 (some ad) n c 0 0 Kr;go_enter func224,ntmps224;go_wp2_with (at_builtin;refine aJ _ rfl _ _ 25 rfl w.heap.size 9 j0 (.string empty) 1 16 Kr hj0 hy0 hy1 hy2 rfl (by decide) (.slice (some ⟨w.heap.size,0,none⟩) 0 0) 0 [] rfl HO.out w.heap.size (some ad) n c (aO bv xs) rfl (HR.out.alloc (qL) _) H1.out (by unfold maxLen;omega) (by omega) (by simp) ?_);intro v' w2 hown hg _;go_wp2_with fail;go_ret;refine⟨v',rfl,by simpa using hown,?_⟩;exact((Ju w.heap.size w).alloc (qL) _).grown hg (by simp) (fun k hk=>by simp[Value.ownBlock] at hk;omega)
theorem mQ(w:World):Calls prog 224 #[.slice none 0 0] w fun e w'=>e=.returned (.slice none 0 0)/\w'=w:=by
 have kn:=fun(w:World)=>MO (P:=prog) w 25 9 none 0 0 0 0 Kr;go_enter func224,ntmps224;go_wp2_with fail;go_ret;exact⟨rfl,rfl⟩
theorem sX(w:World):Calls prog 227 #[.slice none 0 0] w fun e w'=>e=.returned (.slice none 0 0)/\w'=w:=by
 have kn:=fun(w:World)=>MO (P:=prog) w 30 174 none 0 0 0 0 underlying30;go_enter func227,ntmps227;go_wp2_with fail;go_ret;exact⟨rfl,rfl⟩
abbrev IK(A:Option Addr):dI:=.mk 0 .nil empty .nil (VC.zero,aC.zero) 0 A 0 0 []
abbrev eJ(A:Option Addr):Array Value:=#[.int .i64 0,.slice none 0 0,.string empty,.slice none 0 0,.int .i64 0,.int .i64 0,.string empty,.slice none 0 0,.slice none 0 0,.int .i64 0,.slice A 0 0]
theorem wP:(Tryz.prog.info? 35).map (fun i=>(i.zero,i.size,i.bytes))=some (some (.agg (eJ none)),11,184):=by kernel_rfl
theorem wQ{fn:Func}{p:Tmp}(h:fn.results=#[.cell p 35])(tmps:Array Value)(g:Nat)(h1:tmps[p]?.getD undef=.pointer (some ⟨g,0,none⟩))(W:World)(P:Array Value)(hs:P.size=11)(q:aG W g 35 P):
 (results fn tmps).run prog W=.ok (.agg P) W:=by
 simp[results,h,h1,asAddr,Nw W g 35 35 P (0,0) _ q Kw rfl (by rw[hs];kernel_rfl)]
theorem jJ{fn:Func}{p:Tmp}(h:fn.results=#[.cell p 38])(tmps:Array Value)(g:Nat)(h1:tmps[p]?.getD undef=.pointer (some ⟨g,0,none⟩))(W:World)(P:Array Value)(hs:P.size=25)(q:aG W g 38 P):
 (results fn tmps).run prog W=.ok (.agg P) W:=by
 simp[results,h,h1,asAddr,Nw W g 38 38 P (0,0) _ q KH rfl (by rw[hs];kernel_rfl)]
theorem sY(w:World):Calls prog 228 #[.agg (eJ none)] w fun e w'=>∃A,e=.returned (.agg (eJ A))/\Below w.heap.size w w':=by
 obtain⟨j0,hj0,hz0,hz1,hz2⟩:=LM wP
 have hmk:∀w:World,(Instr.makeSlice 33 (.int .i64 0) (.int .i64 0)).run prog w=.ok (.slice (some ⟨w.heap.size,0,none⟩) 0 0) (w.alloc (.cells (madeCells (eJ none) 0) 35)):=fun w=>by
  have h:=eV (P:=prog) 33 35 j0 (.agg (eJ none)) underlying33 hj0 hz0 0 (by omega) (by omega) w;rw[Ll] at h;exact h
 have B0:Hid (aG ((w.alloc (.cells (eJ none) 35)).alloc (.cells (eJ none) 35)) w.heap.size 35 (eJ none)):=(aG.Ii rfl).alloc _;have B1:Hid (aG ((w.alloc (.cells (eJ none) 35)).alloc (.cells (eJ none) 35)) (w.heap.size+1) 35 (eJ none)):=aG.Ii (by simp);have BE:Hid (Below w.heap.size w ((w.alloc (.cells (eJ none) 35)).alloc (.cells (eJ none) 35))):=((Ju _ _).alloc (qL) _).alloc (by simp) _;go_enter func228,ntmps228;go_upto_region 1 with fail
 change Code.wp _ _ _ _ ((w.alloc (.cells (eJ none) 35)).alloc (.cells (eJ none) 35));generalize (w.alloc (.cells (eJ none) 35)).alloc (.cells (eJ none) 35)=wa at*;have c1:=B0.out.cell 1;have z1:=B0.out.frozen 1;simp at c1;go_upto_region 2 with(go_at_call 224;refine(mQ _).mono ?_;rintro e w1 ⟨rfl,rfl⟩)
 have C0:Hid (aG (w1.setCell ⟨w.heap.size,1,none⟩ (.slice none 0 0)) w.heap.size 35 (eJ none)):=B0.out.Ij 1 (.slice none 0 0);have C1:Hid (aG (w1.setCell ⟨w.heap.size,1,none⟩ (.slice none 0 0)) (w.heap.size+1) 35 (eJ none)):=B1.out.Ip (by simp) _;have CE:Hid (Below w.heap.size w (w1.setCell ⟨w.heap.size,1,none⟩ (.slice none 0 0))):=BE.out.setCell (qL) _;change Code.wp _ _ _ _ (w1.setCell ⟨w.heap.size,1,none⟩ (.slice none 0 0));generalize w1.setCell ⟨w.heap.size,1,none⟩ (.slice none 0 0)=wb at*;clear c1 z1 B0 B1 BE;have c3:=C0.out.cell 3;have z3:=C0.out.frozen 3;simp at c3;go_upto_region 3 with(go_at_call 224;refine(mQ _).mono ?_;rintro e w2 ⟨rfl,rfl⟩)
 have D0:Hid (aG (w2.setCell ⟨w.heap.size,3,none⟩ (.slice none 0 0)) w.heap.size 35 (eJ none)):=C0.out.Ij 3 (.slice none 0 0);have D1:Hid (aG (w2.setCell ⟨w.heap.size,3,none⟩ (.slice none 0 0)) (w.heap.size+1) 35 (eJ none)):=C1.out.Ip (by simp) _;have DE:Hid (Below w.heap.size w (w2.setCell ⟨w.heap.size,3,none⟩ (.slice none 0 0))):=CE.out.setCell (qL) _;change Code.wp _ _ _ _ (w2.setCell ⟨w.heap.size,3,none⟩ (.slice none 0 0));generalize w2.setCell ⟨w.heap.size,3,none⟩ (.slice none 0 0)=wc at*;clear c3 z3 C0 C1 CE;have c4:=D0.out.cell 4;have c5:=D0.out.cell 5;have c6:=D0.out.cell 6;have c7:=D0.out.cell 7;have c8:=D0.out.cell 8;simp at c4 c5 c6 c7 c8
 go_upto_region 4 with(first
  | (go_at_call 225;refine(lz 0 0 _).mono ?_;rintro e w3 ⟨rfl,hb3⟩;have E0:=qD (D0.out.step hb3);have E1:=qD (D1.out.step hb3);have EE:=qD (DE.out.Ih hb3);have zz:=E0.out.frozen;clear hb3 c4 c5 c6 c7 c8;have c4:=E0.out.cell 4;have c5:=E0.out.cell 5;have c6:=E0.out.cell 6;have c7:=E0.out.cell 7;have c8:=E0.out.cell 8;simp at c4 c5 c6 c7 c8))
 clear D0 D1 DE;have F0:Hid (aG (bH w3 w.heap.size 4 ⟨0,0,empty,none,0,0,none,0,0⟩) w.heap.size 35 (eJ none)):=((((E0.out.Ij 4 _).Ij 5 _).Ij 6 _).Ij 7 _).Ij 8 _;have F1:Hid (aG (bH w3 w.heap.size 4 ⟨0,0,empty,none,0,0,none,0,0⟩) (w.heap.size+1) 35 (eJ none)):=E1.out.Ix (by simp) 4 _;have FE:Hid (Below w.heap.size w (bH w3 w.heap.size 4 ⟨0,0,empty,none,0,0,none,0,0⟩)):=af EE.out (qL) 4 _;change Code.wp _ _ _ _ (bH w3 w.heap.size 4 ⟨0,0,empty,none,0,0,none,0,0⟩);generalize bH w3 w.heap.size 4 ⟨0,0,empty,none,0,0,none,0,0⟩=wd at*;clear c4 c5 c6 c7 c8 zz E0 E1 EE;have c10:=F0.out.cell 10;simp at c10;go_upto_region 5 with fail
 change Code.wp _ _ _ _ (wd.alloc (.cells (madeCells (eJ none) 0) 35));have G0:Hid (aG (wd.alloc (.cells (madeCells (eJ none) 0) 35)) w.heap.size 35 (eJ none)):=F0.out.alloc _;have G1:Hid (aG (wd.alloc (.cells (madeCells (eJ none) 0) 35)) (w.heap.size+1) 35 (eJ none)):=F1.out.alloc _;have GE:Hid (Below w.heap.size w (wd.alloc (.cells (madeCells (eJ none) 0) 35))):=FE.out.alloc FE.out.size _;generalize wd.alloc (.cells (madeCells (eJ none) 0) 35)=we at*;generalize wd.heap.size=gk at*;clear c10 F0 F1 FE hmk;have c10:=G0.out.cell 10;have z10:=G0.out.frozen 10;simp at c10;go_upto_region 6 with fail
 go_loopw [25] (fun v wr=>v=.int .i64 0/\wr=we) (fun _ _=>0)
 ·exact⟨rfl,rfl⟩
 case round=>
  obtain⟨rfl,rfl⟩:=hrel;go_upto_region 11 with fail
  have H0:Hid (aG (wr.setCell ⟨w.heap.size,10,none⟩ (.slice (some ⟨gk,0,none⟩) 0 0)) w.heap.size 35 (eJ (some ⟨gk,0,none⟩))):=G0.out.Ij 10 _;have H1:Hid (aG (wr.setCell ⟨w.heap.size,10,none⟩ (.slice (some ⟨gk,0,none⟩) 0 0)) (w.heap.size+1) 35 (eJ none)):=G1.out.Ip (by simp) _;have HE:Hid (Below w.heap.size w (wr.setCell ⟨w.heap.size,10,none⟩ (.slice (some ⟨gk,0,none⟩) 0 0))):=GE.out.setCell (qL) _;change Code.wp _ _ _ _ (wr.setCell ⟨w.heap.size,10,none⟩ (.slice (some ⟨gk,0,none⟩) 0 0));generalize wr.setCell ⟨w.heap.size,10,none⟩ (.slice (some ⟨gk,0,none⟩) 0 0)=wf at*;clear c10 z10 G0 G1 GE
  go_wp2_with (first
   | ((with_reducible show wpList _ _ _ (⟨_,.load 35 _,_,_,_,_⟩::_) _ _);refine wpList_load_row rfl 35 _ rfl _ rfl _ _ _ _ H0.out rfl rfl (by kernel_rfl) ?_)
   | ((with_reducible show wpList _ _ _ (⟨_,.store 35 _ _,_,_,_,_⟩::_) _ _);refine LD rfl 35 _ _ rfl (w.heap.size+1) (eJ (some ⟨gk,0,none⟩)) rfl rfl 35 _ H1.out (by kernel_rfl) rfl (by simp[Value.oneCell']) ?_))
  exact Jz (wQ rfl _ _ rfl _ _ rfl (bY H1.out _)) rfl ⟨_,rfl,bZ HE.out (by omega) _⟩
abbrev cW(op:Int)(A:Option Addr)(c:Nat)(xA kA:Option Addr):aX:=.mk op ⟨A,1,c,[(⟨#[97]⟩:ByteArray)]⟩ (pq,.mk 3 1 empty [] []) .nil 0 0 0 .nil 0 (IK xA) kA 0 0 []
theorem df(op:Int)(A:Option Addr)(c:Nat)(xA kA:Option Addr):Lf op (cW op A c xA kA):=
 ⟨rfl,rfl,rfl,rfl,rfl,rfl,rfl,rfl,rfl,rfl,rfl,rfl,rfl,rfl,rfl,rfl,rfl,rfl,rfl⟩
theorem uQ(n:Nat):0*n<=aH:=by rw[Ll];exact KD _
theorem wR{w:World}:SL (fun _=>True) w none 0 0 []:=⟨SR.nil,uQ _,fun h=>absurd h (On _),fun p hp=>by cases hp⟩
theorem sZ{w:World}:ST w none 0 0 []:=⟨SR.nil,uQ _,fun s hs=>by cases hs⟩
theorem sa(w:World):RW w VC.zero aC.zero:=sK.shut ⟨rfl,rfl,rfl,by show ByteArray.empty.size<=aH;decide,rfl,qL,by show 0*80<=aH;decide,fun h=>absurd h (by show ¬0<0;omega),rfl,qL,by show 0*96<=aH;decide,fun h=>absurd h (by show ¬0<0;omega)⟩
theorem sb(w:World)(A:Option Addr):WX w (IK A):=GL.shut ⟨sZ,by show ByteArray.empty.size<=aH;decide,sZ,sa w,SR.nil,uQ _,fun k hk=>by cases hk⟩
theorem kG{op:Int}{A:Option Addr}{c:Nat}{xA kA:Option Addr}{w:World}(h:ST w A 1 c [(⟨#[97]⟩:ByteArray)]):WP w (cW op A c xA kA):=
 Dn.shut ⟨h,tO w,wR,KD _,SR.nil,uQ _,sb w _,SR.nil,uQ _,fun k hk=>by cases hk⟩
def wS(op:Int)(w:World)(e:Ending)(w':World):Prop:=
 ∃(b off c:Nat) (xA kA:Option Addr),e=.returned (aW (cW op (some ⟨b,off,none⟩) c xA kA))/\w'.cell? ⟨b,off,none⟩=some (.string ⟨#[97]⟩)/\1<=c/\w.heap.size<=b/\Below w.heap.size w w'
end
structure lF(w:World)(b2 off2:Nat)(q:aX)(wr:World):Prop where
 b0:aG wr w.heap.size 38 (aD q)
 b1:aG wr (w.heap.size+1) 38 (aD aX.zero)
 pc:wr.cell? ⟨b2,off2,none⟩=some (.string ⟨#[97]⟩)
 ge:w.heap.size+2<=b2
 bel:Below w.heap.size w wr
section
variable {b c i o n off q size b2 off2 S:Nat} {op a:Int} {w w' wr:World} {A:Option Addr} {e:TypeId}
theorem lF.step{w wr w':World}{b2 off2:Nat}{q:aX}(h:lF w b2 off2 q wr)(hb:Below wr.heap.size wr w'):lF w b2 off2 q w':=
 ⟨h.b0.step hb,h.b1.step hb,(hb.cell (KY wr _ h.pc)).trans h.pc,h.ge,h.bel.Ih hb⟩
theorem lF.set{w wr:World}{b2 off2:Nat}{q q':aX}(h:lF w b2 off2 q wr)(i:Nat)(u:Value)(e:(aD q).setIfInBounds i u=aD q'):lF w b2 off2 q' (wr.setCell ⟨w.heap.size,i,none⟩ u):=
 ⟨BQ (h.b0.Ij i u) e,h.b1.Ip (by simp) _,(Kh (a:=⟨b2,off2,none⟩) (Ku wr ⟨w.heap.size,i,none⟩ u b2 (by have:=h.ge;show b2≠w.heap.size;omega))).trans h.pc,h.ge,h.bel.setCell (qL) _⟩
theorem lF.Ji{w wr:World}{b2 off2:Nat}{q q':aX}(h:lF w b2 off2 q wr)(o:Nat)(vs:List Value)(e:(dZ (aq q) o vs).toArray=aD q'):lF w b2 off2 q' (wr.setCells w.heap.size o vs):=
 ⟨BQ (aG.setCells vs (l:=aq q) o h.b0) e,hH h.b1 (by omega) _ _,(Kh (a:=⟨b2,off2,none⟩) (iT w.heap.size vs o wr b2 (by have:=h.ge;omega))).trans h.pc,h.ge,iA h.bel (qL) _ _⟩
theorem lF.alloc{w wr:World}{b2 off2:Nat}{q:aX}(h:lF w b2 off2 q wr)(o:Obj):lF w b2 off2 q (wr.alloc o):=h.step ((Ju _ _).alloc (qL) o)
theorem yc{w:World}{b off c:Nat}(h:w.cell? ⟨b,off,none⟩=some (.string ⟨#[97]⟩))(hc:1<=c):ST w (some ⟨b,off,none⟩) 1 c [(⟨#[97]⟩:ByteArray)]:=by
 refine⟨⟨rfl,hc,fun _=>⟨b,off,rfl,KY w _ h,fun i x hi j v hj=>?_⟩⟩,by decide,fun s hs=>by simp at hs;subst hs;decide⟩
 match i,j,hi,hj with
 | 0,0,hi,hj=>
  simp[bv] at hi hj;subst hi;subst hj;rw[Ll];exact h
 | 0,j+1,hi,hj=>simp[bv] at hj
 | i+1,_,hi,_=>simp at hi
theorem se(op:Int)(A:Option Addr)(c:Nat)(w:World)(hl:ST w A 1 c [(⟨#[97]⟩:ByteArray)]):Calls prog 181 #[aW (cW op A c none none)] w (wS op w):=by
 obtain⟨j0,hj0,hz0,hz1,hz2⟩:=LM lY
 have hmk:∀w:World,(Instr.makeSlice 36 (.int .i64 0) (.int .i64 0)).run prog w=.ok (.slice (some ⟨w.heap.size,0,none⟩) 0 0) (w.alloc (.cells (madeCells (aD aX.zero) 0) 38)):=fun w=>by
  have h:=eV (P:=prog) 36 38 j0 (aW aX.zero) Nd hj0 hz0 0 (by omega) (by omega) w;rw[Ll] at h;exact h
 have HMK:=qD hmk;clear hmk;have B0:Hid (aG ((w.alloc (.cells (aD (cW op A c none none)) 38)).alloc (.cells (aD aX.zero) 38)) w.heap.size 38 (aD (cW op A c none none))):=(aG.Ii rfl).alloc _;have B1:Hid (aG ((w.alloc (.cells (aD (cW op A c none none)) 38)).alloc (.cells (aD aX.zero) 38)) (w.heap.size+1) 38 (aD aX.zero)):=aG.Ii (by simp);have BE:Hid (Below w.heap.size w ((w.alloc (.cells (aD (cW op A c none none)) 38)).alloc (.cells (aD aX.zero) 38))):=((Ju _ _).alloc (qL) _).alloc (by simp) _;have HL:=qD hl;clear hl;go_enter func181,ntmps181;go_upto_region 1 with fail
 change Code.wp _ _ _ _ ((w.alloc (.cells (aD (cW op A c none none)) 38)).alloc (.cells (aD aX.zero) 38));have hsz:((w.alloc (.cells (aD (cW op A c none none)) 38)).alloc (.cells (aD aX.zero) 38)).heap.size=w.heap.size+2:=by simp
 generalize (w.alloc (.cells (aD (cW op A c none none)) 38)).alloc (.cells (aD aX.zero) 38)=wa at*;have HSZ:=qD hsz;clear hsz;have c1:=(B0.out.cell 1).trans (show _=some (Value.slice A 1 c) from rfl);go_upto_region 2 with(go_at_call 224;refine(wO _ A 1 c _ (HL.out.step BE.out).sr (by decide)).mono ?_;rintro e w1 ⟨v,rfl,hown,hb1⟩;obtain⟨A2,c2,hv,hsr⟩:=SR.Ik ez hown rfl;have hge:=bF hown;subst hv;obtain⟨b2,off2,s2,hA2,hbl,hx,hm,hrg⟩:=hsr.row (i:=0) (by omega);subst hA2;have C0:=qD (B0.out.step hb1);have c1:=(C0.out.cell 1).trans (show _=some (Value.slice A 1 c) from rfl);have z1:=C0.out.frozen 1)
 have P0:Hid (lF w b2 off2 (cW op (some ⟨b2,off2,none⟩) c2 none none) (w1.setCell ⟨w.heap.size,1,none⟩ (.slice (some ⟨b2,off2,none⟩) 1 c2))):=by
  have hp:lF w b2 off2 (cW op A c none none) w1:=by
   refine⟨C0.out,B1.out.step hb1,?_,?_,BE.out.Ih hb1⟩
   ·have h:=hrg 0 _ rfl;rw[Ll,MG] at h;simp at hx;subst hx;exact h
   ·have:=hge b2 rfl;have:=HSZ.out;omega
  exact qD (hp.set 1 _ rfl)
 have HC2:Hid (1<=c2):=qD hsr.lc;change Code.wp _ _ _ _ (w1.setCell ⟨w.heap.size,1,none⟩ (.slice (some ⟨b2,off2,none⟩) 1 c2));generalize w1.setCell ⟨w.heap.size,1,none⟩ (.slice (some ⟨b2,off2,none⟩) 1 c2)=wb at*;clear c1 z1 hown hb1 hsr hge hbl hx hm hrg C0 B0 B1 BE HL;have c2_:=(P0.out.b0.cell 2).trans (show _=some (Value.int .i64 3) from rfl);have c3_:=(P0.out.b0.cell 3).trans (show _=some (Value.int .i64 1) from rfl);have c4_:=(P0.out.b0.cell 4).trans (show _=some (Value.string empty) from rfl);have c5_:=(P0.out.b0.cell 5).trans (show _=some (Value.slice none 0 0) from rfl);have c6_:=(P0.out.b0.cell 6).trans (show _=some (Value.slice none 0 0) from rfl)
 go_upto_region 3 with(first
  | (go_at_call 225;refine(lz 3 1 _).mono ?_;rintro e w3 ⟨rfl,hb3⟩;have E0:=qD (P0.out.step hb3);have zz:=E0.out.b0.frozen;clear hb3 c2_ c3_ c4_ c5_ c6_;have c2_:=(E0.out.b0.cell 2).trans (show _=some (Value.int .i64 3) from rfl);have c3_:=(E0.out.b0.cell 3).trans (show _=some (Value.int .i64 1) from rfl);have c4_:=(E0.out.b0.cell 4).trans (show _=some (Value.string empty) from rfl);have c5_:=(E0.out.b0.cell 5).trans (show _=some (Value.slice none 0 0) from rfl);have c6_:=(E0.out.b0.cell 6).trans (show _=some (Value.slice none 0 0) from rfl)))
 clear P0;have P0:Hid (lF w b2 off2 (cW op (some ⟨b2,off2,none⟩) c2 none none) (bH w3 w.heap.size 2 ⟨3,1,empty,none,0,0,none,0,0⟩)):=qD (((((E0.out.set 2 _ rfl).set 3 _ rfl).set 4 _ rfl).set 5 _ rfl).set 6 _ rfl);change Code.wp _ _ _ _ (bH w3 w.heap.size 2 ⟨3,1,empty,none,0,0,none,0,0⟩);generalize bH w3 w.heap.size 2 ⟨3,1,empty,none,0,0,none,0,0⟩=wc at*;clear c2_ c3_ c4_ c5_ c6_ zz E0;have c7:=(P0.out.b0.cell 7).trans (show _=some (Value.slice none 0 0) from rfl);have z7:=P0.out.b0.frozen 7;go_upto_region 4 with(go_at_call 226;refine(lK _ _ _).mono ?_;rintro e w4 ⟨rfl,rfl⟩)
 replace P0:=qD (P0.out.set (q':=cW op (some ⟨b2,off2,none⟩) c2 none none) 7 (.slice none 0 0) rfl);change Code.wp _ _ _ _ (w4.setCell ⟨w.heap.size,7,none⟩ (.slice none 0 0));generalize w4.setCell ⟨w.heap.size,7,none⟩ (.slice none 0 0)=wd at*;clear c7 z7;have c11:=(P0.out.b0.cell 11).trans (show _=some (Value.slice none 0 0) from rfl);have z11:=P0.out.b0.frozen 11;go_upto_region 5 with(go_at_call 227;refine(sX _).mono ?_;rintro e w5 ⟨rfl,rfl⟩)
 replace P0:=qD (P0.out.set (q':=cW op (some ⟨b2,off2,none⟩) c2 none none) 11 (.slice none 0 0) rfl);change Code.wp _ _ _ _ (w5.setCell ⟨w.heap.size,11,none⟩ (.slice none 0 0));generalize w5.setCell ⟨w.heap.size,11,none⟩ (.slice none 0 0)=we at*;clear c11 z11;have RX:=qD (gp P0.out.b0)
 go_upto_region 6 with(first
  | ((with_reducible show wpList _ _ _ (⟨_,.load 35 _,_,_,_,_⟩::_) _ _);refine aE rfl 35 _ rfl w.heap.size 13 rfl _ _ RX.out Kw rfl (by kernel_rfl) ?_)
  | (go_at_call 228;refine(sY _).mono ?_;rintro e w6 ⟨XA,rfl,hb6⟩;have E0:=qD (P0.out.step hb6);clear hb6)
  | ((with_reducible show wpList _ _ _ (⟨_,.store 35 _ _,_,_,_,_⟩::_) _ _);refine NI rfl 35 _ _ rfl w.heap.size 13 (eJ XA) rfl rfl (jx E0.out.b0 (by simp)) (by kernel_rfl) (by simp[Value.oneCell']) ?_;refine cR ?_;intro w7 hw7))
 have P1:Hid (lF w b2 off2 (cW op (some ⟨b2,off2,none⟩) c2 XA none) w7):=by
  rw[Hid,hw7];exact E0.out.Ji 13 (eJ XA).toList rfl
 clear hw7 P0 E0 RX;have c24:=(P1.out.b0.cell 24).trans (show _=some (Value.slice none 0 0) from rfl);have hmk:=HMK.out;go_upto_region 7 with fail
 have gg:w.heap.size+2<=w7.heap.size:=by have:=P1.out.b1.lt;omega
 replace P1:=qD (P1.out.alloc (.cells (madeCells (aD aX.zero) 0) 38));change Code.wp _ _ _ _ (w7.alloc (.cells (madeCells (aD aX.zero) 0) 38));generalize w7.alloc (.cells (madeCells (aD aX.zero) 0) 38)=wf at*;generalize w7.heap.size=gk at*;clear hmk c24 HMK gg;have c24:=(P1.out.b0.cell 24).trans (show _=some (Value.slice none 0 0) from rfl);have z24:=P1.out.b0.frozen 24;go_upto_region 8 with fail
 go_loopw [35] (fun v wr=>v=.int .i64 0/\wr=wf) (fun _ _=>0)
 ·exact⟨rfl,rfl⟩
 case round=>
  obtain⟨rfl,rfl⟩:=hrel;go_upto_region 13 with fail
  replace P1:=qD (P1.out.set (q':=cW op (some ⟨b2,off2,none⟩) c2 XA (some ⟨gk,0,none⟩)) 24 (.slice (some ⟨gk,0,none⟩) 0 0) rfl);change Code.wp _ _ _ _ (wr.setCell ⟨w.heap.size,24,none⟩ (.slice (some ⟨gk,0,none⟩) 0 0));generalize wr.setCell ⟨w.heap.size,24,none⟩ (.slice (some ⟨gk,0,none⟩) 0 0)=wg at*;clear c24 z24;have RF:=qD (ae P1.out.b0)
  go_wp2_with (first
   | ((with_reducible show wpList _ _ _ (⟨_,.load 38 _,_,_,_,_⟩::_) _ _);refine aE rfl 38 _ rfl w.heap.size 0 rfl _ _ RF.out KH rfl (by kernel_rfl) ?_)
   | ((with_reducible show wpList _ _ _ (⟨_,.store 38 _ _,_,_,_,_⟩::_) _ _);refine LD rfl 38 _ _ rfl (w.heap.size+1) (aD (cW op (some ⟨b2,off2,none⟩) c2 XA (some ⟨gk,0,none⟩))) rfl rfl 38 _ P1.out.b1 (by kernel_rfl) rfl (cZ _) ?_))
  exact Jz (jJ rfl _ _ rfl _ _ rfl (bY P1.out.b1 _)) rfl ⟨b2,off2,c2,XA,_,rfl,(Kh (a:=⟨b2,off2,none⟩) (NJ wg (w.heap.size+1) b2 _ (by have:=P1.out.ge;omega))).trans P1.out.pc,HC2.out,by have:=P1.out.ge;omega,bZ P1.out.bel (by omega) _⟩
theorem zc{op:Int}(ho:nz op)(A:Option Addr)(c:Nat)(xA kA:Option Addr)(w:World):Calls prog 183 #[aW (cW op A c xA kA)] w fun e w'=>e=.returned (aW (cW op A c xA kA))/\Below w.heap.size w w':=by
 have B0:Hid (aG ((w.alloc (.cells (aD (cW op A c xA kA)) 38)).alloc (.cells (aD aX.zero) 38)) w.heap.size 38 (aD (cW op A c xA kA))):=(aG.Ii rfl).alloc _;have B1:Hid (aG ((w.alloc (.cells (aD (cW op A c xA kA)) 38)).alloc (.cells (aD aX.zero) 38)) (w.heap.size+1) 38 (aD aX.zero)):=aG.Ii (by simp);have BE:Hid (Below w.heap.size w ((w.alloc (.cells (aD (cW op A c xA kA)) 38)).alloc (.cells (aD aX.zero) 38))):=((Ju _ _).alloc (qL) _).alloc (by simp) _;go_enter func183,ntmps183;go_upto_region 1 with fail
 change Code.wp _ _ _ _ ((w.alloc (.cells (aD (cW op A c xA kA)) 38)).alloc (.cells (aD aX.zero) 38));generalize (w.alloc (.cells (aD (cW op A c xA kA)) 38)).alloc (.cells (aD aX.zero) 38)=wa at*;have d0:=(B0.out.cell 0).trans (show _=some (Value.int .i64 op) from rfl);have RF:=qD (ae B0.out);rcases ho with rfl|rfl
 ·go_wp2_with (first
   | ((with_reducible show wpList _ _ _ (⟨_,.load 38 _,_,_,_,_⟩::_) _ _);refine aE rfl 38 _ rfl w.heap.size 0 rfl _ _ RF.out KH rfl (by kernel_rfl) ?_)
   | ((with_reducible show wpList _ _ _ (⟨_,.store 38 _ _,_,_,_,_⟩::_) _ _);refine LD rfl 38 _ _ rfl (w.heap.size+1) (aD (cW 2 A c xA kA)) rfl rfl 38 _ B1.out (by kernel_rfl) rfl (cZ _) ?_))
  exact Jz (jJ rfl _ _ rfl _ _ rfl (bY B1.out _)) rfl ⟨rfl,bZ BE.out (by omega) _⟩
 ·go_wp2_with (first
   | ((with_reducible show wpList _ _ _ (⟨_,.load 38 _,_,_,_,_⟩::_) _ _);refine aE rfl 38 _ rfl w.heap.size 0 rfl _ _ RF.out KH rfl (by kernel_rfl) ?_)
   | ((with_reducible show wpList _ _ _ (⟨_,.store 38 _ _,_,_,_,_⟩::_) _ _);refine LD rfl 38 _ _ rfl (w.heap.size+1) (aD (cW 5 A c xA kA)) rfl rfl 38 _ B1.out (by kernel_rfl) rfl (cZ _) ?_))
  exact Jz (jJ rfl _ _ rfl _ _ rfl (bY B1.out _)) rfl ⟨rfl,bZ BE.out (by omega) _⟩
theorem ni{op:Int}(ho:nz op)(A:Option Addr)(c:Nat)(w:World)(hT:cY w)(hN:Db w)(hl:ST w A 1 c [(⟨#[97]⟩:ByteArray)]):Calls prog 131 #[aW (cW op A c none none)] w (wS op w):=by
 have B0:Hid (aG ((w.alloc (.cells (aD (cW op A c none none)) 38)).alloc (.cells (aD aX.zero) 38)) w.heap.size 38 (aD (cW op A c none none))):=(aG.Ii rfl).alloc _;have B1:Hid (aG ((w.alloc (.cells (aD (cW op A c none none)) 38)).alloc (.cells (aD aX.zero) 38)) (w.heap.size+1) 38 (aD aX.zero)):=aG.Ii (by simp);have BE:Hid (Below w.heap.size w ((w.alloc (.cells (aD (cW op A c none none)) 38)).alloc (.cells (aD aX.zero) 38))):=((Ju _ _).alloc (qL) _).alloc (by simp) _;have HT:=qD hT;have HN:=qD hN;have HL:=qD hl;have HO:=qD ho;have HLF:=qD (df op A c none none);clear hT hN hl ho;go_enter func131,ntmps131;go_upto_region 1 with fail
 change Code.wp _ _ _ _ ((w.alloc (.cells (aD (cW op A c none none)) 38)).alloc (.cells (aD aX.zero) 38));generalize (w.alloc (.cells (aD (cW op A c none none)) 38)).alloc (.cells (aD aX.zero) 38)=wa at*;have RF:=qD (ae B0.out)
 go_upto_region 3 with(first
  | ((with_reducible show wpList _ _ _ (⟨_,.load 38 _,_,_,_,_⟩::_) _ _);refine aE rfl 38 _ rfl w.heap.size 0 rfl _ _ RF.out KH rfl (by kernel_rfl) ?_)
  | (go_at_call 180;refine(yE HLF.out HO.out _ (HT.out.step BE.out) (HL.out.step BE.out)).mono ?_;rintro e w1 ⟨rfl,hb1⟩;have C0:=qD (B0.out.step hb1);have C1:=qD (B1.out.step hb1);have CE:=qD (BE.out.Ih hb1);clear hb1))
 clear RF B0 B1 BE;have RF:=qD (ae C0.out)
 go_upto_region 4 with(first
  | ((with_reducible show wpList _ _ _ (⟨_,.load 38 _,_,_,_,_⟩::_) _ _);refine aE rfl 38 _ rfl w.heap.size 0 rfl _ _ RF.out KH rfl (by kernel_rfl) ?_)
  | (go_at_call 182;refine(Af HLF.out HO.out _ (HN.out.step CE.out) (HL.out.step CE.out)).mono ?_;rintro e w2 ⟨gf,rfl,hb2⟩))
 change Code.wp _ _ _ _ (w2.alloc (.cells (tY gf).arr 29));have hb3:Below w1.heap.size w1 (w2.alloc (.cells (tY gf).arr 29)):=hb2.alloc hb2.size _;generalize w2.alloc (.cells (tY gf).arr 29)=w3 at*;have D0:=qD (C0.out.step hb3);have D1:=qD (C1.out.step hb3);have DE:=qD (CE.out.Ih hb3);clear hb2 hb3 RF C0 C1 CE;have RF:=qD (ae D0.out)
 go_wp2_with (first
  | ((with_reducible show wpList _ _ _ (⟨_,.load 38 _,_,_,_,_⟩::_) _ _);refine aE rfl 38 _ rfl w.heap.size 0 rfl _ _ RF.out KH rfl (by kernel_rfl) ?_)
  | (go_at_call 181;refine(se op A c _ (HL.out.step DE.out)).mono ?_;rintro e w4 ⟨b4,off4,c4,xA,kA,rfl,hst,hc4,hge4,hb4⟩;have E1:=qD (D1.out.step hb4);have EE:=qD (DE.out.Ih hb4);have HS:=qD hst;have HC4:=qD hc4;have HG4:Hid (w.heap.size+1<b4):=qD (Ka D1.out.lt hge4);clear hst hc4 hge4 hb4)
  | (go_at_call 183;refine(zc HO.out _ c4 xA kA _).mono ?_;rintro e w5 ⟨rfl,hb5⟩;have F1:=qD (E1.out.step hb5);have FE:=qD (EE.out.Ih hb5);have HS5:=qD ((hb5.cell (KY w4 _ HS.out)).trans HS.out);clear hb5)
  | ((with_reducible show wpList _ _ _ (⟨_,.store 38 _ _,_,_,_,_⟩::_) _ _);refine LD rfl 38 _ _ rfl (w.heap.size+1) (aD (cW op (some ⟨b4,off4,none⟩) c4 xA kA)) rfl rfl 38 _ F1.out (by kernel_rfl) rfl (cZ _) ?_))
 exact Jz (jJ rfl _ _ rfl _ _ rfl (bY F1.out _)) rfl ⟨b4,off4,c4,xA,kA,rfl,(Kh (a:=⟨b4,off4,none⟩) (NJ w5 (w.heap.size+1) b4 _ (by have:=HG4.out;omega))).trans HS5.out,HC4.out,by have:=HG4.out;omega,bZ FE.out (by omega) _⟩
abbrev aP:ByteArray:=⟨#[97]⟩
abbrev bP:ByteArray:=⟨#[98]⟩
theorem Lf.JT{op:Int}{p:aX}(h:Lf op p):p.arg=(cI 1,vI 1):=h.arg
theorem Lf.JO{op:Int}{p:aX}(h:Lf op p)(ho:op=2\/op=5):kS p:=by
 have e:=h.op_;refine vd.shut ⟨fun _=>?_,fun _=>?_,fun k=>?_,fun k=>?_,fun k=>?_,fun _=>?_,by omega,fun _=>?_⟩
 ·rw[h.JT];exact ic 1
 ·rw[h.args];intro x hx;cases hx
 ·omega
 ·omega
 ·omega
 ·rw[h.xs];decide
 ·rw[h.kids];intro x hx;cases hx
theorem Lf.sz{op:Int}{p:aX}(h:Lf op p):p.sz=1:=by
 rw[p.Ir,h.argn,h.kids];rfl
theorem Lf.parts{op:Int}{p:aX}(h:Lf op p)(ho:op=2\/op=5):aj p=[p]:=by
 unfold aj;rw[KU (by have:=h.op_;omega)]
def mR:Int:=9223372036854775807
theorem Lf.JR{p:aX}(h:Lf 2 p):dW [aP] p=(fun a=>ch aZ a (aU [ei (vI 1)]),true):=by
 rw[kQ (by have:=h.op_;omega) (by have:=h.op_;omega) h.xs,h.op_,h.JT,h.args];unfold dx dp;rw[Kb rfl,KU (by show ¬(3:Int)=6;omega)];simp only[OQ,true_and];exact Jy (by show(3:Int)≠2;omega)
theorem Lf.Jd{p:aX}(h:Lf 5 p):dW [aP] p=(fun a=>ch aZ a (aU [DZ 1 mR true true]),true):=by
 rw[kQ (by have:=h.op_;omega) (by have:=h.op_;omega) h.xs,h.op_,h.JT,h.args];unfold dx dp;rw[KU (by omega),Kb (by omega),KU (by show ¬(3:Int)=6;omega)]
 have e:mZ 5 (vI 1)=DZ 1 mR true true:=by
  unfold mZ;rw[Kb (by omega)]
  have e3:bB (vI 1).k=⟨bS 3,.mk 3 9223372036854775807 empty [] [],true,true⟩:=by
   unfold bB;rw[Kb (.inl rfl)];rfl
  rw[e3];rfl
 simp only[OQ];refine⟨?_,Jy (by show(3:Int)≠2;omega)⟩;show(fun a=>ch aZ a (aU [mZ 5 (vI 1)]))=_;rw[e]
theorem Lf.Jo{op:Int}{p:aX}(h:Lf op p)(ho:op=2\/op=5):dW [bP] p=(eD,false):=
 ma (by have:=h.op_;omega) (by have:=h.op_;omega) (by rw[h.xs];intro e;injection e with e1 e2;revert e1;decide)
theorem Bs:aU [ei (vI 1)]=[(iX 1 false,iX 1 true)]:=by
 rw[od (by intro x hx;simp at hx;subst hx;rw[Ca];exact ic _)];rfl
theorem En:aU [DZ 1 mR true true]=[(iX 1 false,iX mR true)]:=by
 rw[od (by intro x hx;simp at hx;subst hx;exact FF (by decide))];rfl
theorem mS:gd (fun a=>ch aZ a (aU [ei (vI 1)])) [(iX 1 false,iX 1 true)]:=
 ⟨⟨fun s hs=>by simp at hs;subst hs;exact⟨by rw[jt];decide,yP _ _,yP _ _⟩,by simp⟩,fun a=>by rw[Bs]⟩
theorem Eo:gd (fun a=>ch aZ a (aU [DZ 1 mR true true])) [(iX 1 false,iX mR true)]:=
 ⟨⟨fun s hs=>by simp at hs;subst hs;exact⟨by rw[jt];decide,yP _ _,yP _ _⟩,by simp⟩,fun a=>by rw[En]⟩
theorem pC{a:cy}(h:ch aZ a (aU [ei (vI 1)])):ch aZ a (aU [DZ 1 mR true true]):=by
 rw[Bs,fL] at h;rw[En,fL];have c:aZ (iX 1 true) (iX mR true)<0:=by rw[jt];decide
 have t2:=ee.tr a (iX 1 true) (iX mR true);unfold TR at t2;dsimp only at h ⊢;exact⟨h.1,by have:=t2 (by omega) (by omega);omega⟩
theorem Du:gd (fun a=>ch aZ a (aU [ei (vI 1)])/\ch aZ a (aU [DZ 1 mR true true])) [(iX 1 false,iX 1 true)]:=
 ⟨mS.1,fun a=>(mS.2 a).trans ⟨fun h=>⟨h,pC h⟩,fun h=>h.1⟩⟩
theorem meet_pt':gd (fun a=>ch aZ a (aU [DZ 1 mR true true])/\ch aZ a (aU [ei (vI 1)])) [(iX 1 false,iX 1 true)]:=
 ⟨mS.1,fun a=>(mS.2 a).trans ⟨fun h=>⟨pC h,h⟩,fun h=>h.2⟩⟩
theorem FT{a:cy}(h:ch aZ a (aU [ei (vI 1)])):eD a:=by
 rw[Bs,fL] at h;refine(nQ.2 a).1 ?_;rw[fL];dsimp only at h ⊢;have c1:=lQ 1 false;have c2:=vp 1 true;have t1:=ee.tr (gZ,false) (iX 1 false) a;have t2:=ee.tr a (iX 1 true) (gE,true);unfold TR at t1 t2;exact⟨by have:=t1 (by omega) h.1;omega,by have:=t2 (by omega) (by omega);omega⟩
theorem FU{p q:aX}(hp:Lf 2 p)(hq:Lf 5 q):gd (kC [aP] [p,q]) [(iX 1 false,iX 1 true)]:=
 ⟨mS.1,fun a=>(mS.2 a).trans ⟨fun h=>⟨FT h,fun k hk=>by
  simp at hk
  rcases hk with rfl|rfl
  ·rw[hp.JR];exact h
  ·rw[hq.Jd];exact pC h⟩,fun h=>by have:=h.2 p (by simp);rw[hp.JR] at this;exact this⟩⟩
theorem Bt:[(iX 1 false,iX 1 true)]≠[(iX 1 false,iX mR true)]:=by
 intro e;injection e with e1 _
 injection e1 with _ e2
 have:aZ (iX 1 true) (iX mR true)<0:=by rw[jt];decide
 rw[e2] at this;rw[jt] at this
 revert this
 decide
theorem zd:[(iX 1 false,iX 1 true)]≠[((gZ,false),(gE,true))]:=by
 intro e;injection e with e1 _
 injection e1 with e2 _
 have:=lQ 1 false;rw[<-e2,jt] at this
 revert this
 decide
theorem ze:[(iX 1 false,iX mR true)]≠[((gZ,false),(gE,true))]:=by
 intro e;injection e with e1 _
 injection e1 with e2 _
 have:=lQ 1 false;rw[<-e2,jt] at this
 revert this
 decide
theorem qz{S:cy->Prop}{n:List (cy×cy)}(h:gd S n)(hn:n≠[((gZ,false),(gE,true))]):eK S=false:=by
 cases e:eK S
 ·rfl
 ·exact absurd ((us h).2 e) hn
end
end Go.Proofs.YtgfoliedmhgpnaaGreatDoor
