/- A part of the proof. -/
import Derived.Test.YtgfoliedmhgpnaaGreatDoorBn19
set_option maxRecDepth 100000
set_option maxHeartbeats 16000000
set_option linter.unusedSimpArgs false
open Go.Proofs.Tryz
open ByteArray (empty)
namespace Go.Proofs.YtgfoliedmhgpnaaGreatDoor
open Go.RowKit
section
variable {g o q size:Nat} {op x:Int} {W:World} {t:TypeId} {P:Program} {v:Value}
theorem bL{P:Program}{ev:Operand->Value}{o:Oper}{t:TypeId}{x:Operand}{p v:Value}{W:World}(ho:o.op=.load t x)(hx:ev x=p)(h:(Instr.loadAt t p).run P W=.ok v W):(execOp ev o).run P W=.ok (.value v) W:=by
 unfold execOp;simp only[ho,hx,Oc,h,NZ,Oe]
theorem ff(P:Array Value)(hs:P.size=25)(g:Nat)(W:World)(q:aG W g 38 P):(Instr.loadAt 38 (.pointer (some ⟨g,0,none⟩))).run prog W=.ok (.agg P) W:=by
 simp only[Instr.loadAt,Instr.sureAddr,Oc,Oe,NZ,Nw W g 38 38 P (0,0) _ q KH rfl (by rw[hs];kernel_rfl)]
end
end Go.Proofs.YtgfoliedmhgpnaaGreatDoor
