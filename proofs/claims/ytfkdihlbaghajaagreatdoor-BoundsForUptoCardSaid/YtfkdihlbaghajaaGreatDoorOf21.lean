/- Parts of the proof, joined: ShRanges. -/
import Derived.Test.YtfkdihlbaghajaaGreatDoorOf1
import Derived.Test.YtfkdihlbaghajaaGreatDoorOf20
set_option maxRecDepth 100000
set_option maxHeartbeats 16000000
set_option linter.unusedSimpArgs false
namespace Go.Proofs.YtfkdihlbaghajaaGreatDoor
open Go.RowKit
theorem exec_load{P:Program}{ev:Operand→Value}{o:Oper}{t:TypeId}{x:Operand}{p v:Value}{W:World}(ho:o.op=.load t x)(hx:ev x=p)(h:(Instr.loadAt t p).run P W=.ok v W):(execOp ev o).run P W=.ok (.value v) W:=by
 unfold execOp
 simp only[ho,hx,Sem.run_bind,h,Result.andThen_ok,Sem.run_pure]
theorem load_pred(P:Array Value)(hs:P.size=25)(g:Nat)(W:World)(q:Blk W g 41 P):(Instr.loadAt 41 (.pointer (some ⟨g,0,none⟩))).run Tryz.prog W=.ok (.agg P) W:=by
 simp only[Instr.loadAt,Instr.sureAddr,Sem.run_bind,Sem.run_pure,Result.andThen_ok,run_loadVar_row W g 41 41 P (0,0) _ q Tryz.underlying41 rfl (by rw[hs];kernel_rfl)]
end Go.Proofs.YtfkdihlbaghajaaGreatDoor
