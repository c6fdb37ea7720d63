/- The law ShardkeyContains returns true for every input, and each argument reads behind the call as it read before; the stop words, the tables of unicode/utf8 that it reads are tied to the program's text. Conditions: what is read is of bulk at most 1048576 (the second form); none beyond the card. -/
import Derived.Test.YtgfoliedmhgpnaaGreatDoorCn31
import Derived.Test.YtgfoliedmhgpnaaGreatDoorCn32
set_option maxRecDepth 100000
set_option maxHeartbeats 16000000
open Go.Proofs.Tryz
open ByteArray (empty)
namespace Go.Proofs.YtgfoliedmhgpnaaGreatDoor.shardkeyContains
open Go Go.Shelf Go.ChangeShapes Go.WideShapes Go.ChangeAt Go.RowKit Go.Lib
set_option linter.unusedVariables false
theorem MU:Rows.ShardkeyContainsUptoSaid:=
 OpenClaim.holds_of_cond 3 Tryz.f3 rfl rfl rfl rfl rfl rfl rfl ⟨rfl,rfl,rfl,rfl,rfl⟩ rfl rfl rfl rfl rfl (by kernel_rfl) func3 Ln
  (Qk (by kernel_rfl)) (by unfold Func.isWrapper;first|(rw[OW (by decide+kernel)];kernel_rfl)|(rw[OQ (by decide+kernel)];exact⟨rfl,rfl⟩))
  (fun os started H enc _ F0=>by rw[OpenClaim.pre_eq_preRow];exact Kj os started H enc F0)
theorem proved:Rows.ShardkeyContainsUptoCardSaid:=
 Claim7.holds_tied_plain_at .later [] [.data, .data, .pinned] true (true, "eff37268da3af89082cb77fd34a4f5be10c7302cba2f9b652de5fd85e78b2b77") false
  MU (fun _ h=>by cases h) (by kernel_rfl) (fun _ h=>by cases h) shardkeyContainsUpto_row_tie rfl ⟨rfl,rfl⟩ (by kernel_rfl) rfl
  (fun f fn hf hfn=>by
    obtain rfl : f = 3 := QB ((show Tryz.prog.funcNamed "docstore/docstorelaw48.ShardkeyContains" = some 3 by kernel_rfl).symm.trans hf) |>.symm
    obtain rfl:fn=Tryz.f3:=(QB (Tryz.func3.symm.trans hfn)).symm
    exact⟨by kernel_rfl,fun j t ht=>by
     rw[Tryz.params3] at ht
     have h3:t=24\/t=38\/t=29:=by
      rcases j with _|j
      ·exact .inl (by simpa using ht.symm)
      rcases j with _|j
      ·exact .inr (.inl (by simpa using ht.symm))
      rcases j with _|j
      ·exact .inr (.inr (by simpa using ht.symm))
      ·simp at ht
     rcases h3 with rfl|rfl|rfl
     ·exact(show Tryz.prog.wantsStandIn 24=false by kernel_rfl)
     ·exact(show Tryz.prog.wantsStandIn 38=false by kernel_rfl)
     ·exact(show Tryz.prog.wantsStandIn 29=false by kernel_rfl)⟩)
  (by kernel_rfl)
#print axioms proved
end Go.Proofs.YtgfoliedmhgpnaaGreatDoor.shardkeyContains
