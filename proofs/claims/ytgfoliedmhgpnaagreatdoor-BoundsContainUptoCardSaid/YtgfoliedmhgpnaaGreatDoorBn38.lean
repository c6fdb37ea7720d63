/- The law BoundsContain returns true for every input, and each argument reads behind the call as it read before; the stop words, the tables of unicode/utf8 and the names of the operators that it reads are tied to the program's text. Conditions: what is read is of bulk at most 1048576 (the second form); none beyond the card. -/
import Derived.Test.YtgfoliedmhgpnaaGreatDoorBn36
import Derived.Test.YtgfoliedmhgpnaaGreatDoorBn37
set_option maxRecDepth 100000
set_option maxHeartbeats 16000000
set_option linter.unusedSimpArgs false
open Go.Proofs.Tryz
open ByteArray (empty)
namespace Go.Proofs.YtgfoliedmhgpnaaGreatDoor.boundsContain
open Go Go.Shelf Go.ChangeShapes Go.WideShapes Go.ChangeAt Go.RowKit Go.Lib
set_option linter.unusedVariables false
theorem proved:Rows.BoundsContainUptoCardSaid:=
 Claim7.holds_tied_plain_at .later [] [.data, .data, .data, .data, .pinned] true (true, "eff37268da3af89082cb77fd34a4f5be10c7302cba2f9b652de5fd85e78b2b77") false
  IA (fun _ h=>by cases h) fw (fun _ h=>by cases h) boundsContainUpto_row_tie rfl ⟨rfl,rfl⟩ (by kernel_rfl) rfl
  (fun f fn hf hfn=>by
    obtain rfl : f = 5 := MW ((show Tryz.prog.funcNamed "docstore/docstorelaw25.BoundsContain" = some 5 by kernel_rfl).symm.trans hf) |>.symm
    obtain rfl:fn=Tryz.f5:=(MW (Tryz.func5.symm.trans hfn)).symm
    exact⟨fl,fun j t ht=>by
     rw[Tryz.params5] at ht
     have h3:t=38\/t=25\/t=29:=by
      rcases j with _|j
      ·exact .inl (by simpa using ht.symm)
      rcases j with _|j
      ·exact .inr (.inl (by simpa using ht.symm))
      rcases j with _|j
      ·exact .inr (.inr (by simpa using ht.symm))
      ·simp at ht
     rcases h3 with rfl|rfl|rfl
     ·exact(show Tryz.prog.wantsStandIn 38=false by kernel_rfl)
     ·exact(show Tryz.prog.wantsStandIn 25=false by kernel_rfl)
     ·exact(show Tryz.prog.wantsStandIn 29=false by kernel_rfl)⟩)
  fg
#print axioms proved
end Go.Proofs.YtgfoliedmhgpnaaGreatDoor.boundsContain
