/- leaflaw1.DotTells: the row's closed facts, each apart: the program is too great for all in one. -/
import Derived.Test.YtlbnafnbjgageaaGreatDoorCards
import Derived.Test.YtlbnafnbjgageaaGreatDoorFacts
import Derived.JoinedCond
import Derived.KernelRfl
namespace Go.Proofs.YtlbnafnbjgageaaGreatDoor
set_option maxRecDepth 100000
theorem dotTells_named : Tryz.prog.funcNamed Rows.dotTellsUptoRow.func = some 7 := by kernel_rfl
set_option maxHeartbeats 20000000 in
theorem dotTells_closed : joinedFacts Tryz.pinned.checked.prog 7 Tryz.f7 (Rows.OpenSpec.upto Rows.dotTellsSpec).bare Rows.dotTellsUptoRow = true := by
  unfold joinedFacts
  simp only [Bool.and_eq_true]
  repeat' apply And.intro
  all_goals as_aux_lemma => kernel_rfl
theorem dotTells_inst : Tryz.f7.isInstance Tryz.pinned.checked.prog Rows.dotTellsUptoRow.origin Rows.dotTellsUptoRow.targs := of_decide_eq_true (by kernel_rfl)
theorem dotTells_wrap : Tryz.f7.isWrapper Tryz.pinned.checked.prog Rows.dotTellsUptoRow.wrapper Rows.dotTellsUptoRow.mainSum := by
  unfold Func.isWrapper
  first
    | (rw [if_pos (by decide +kernel)]; kernel_rfl)
    | (rw [if_neg (by decide +kernel)]; exact ⟨rfl, rfl⟩)
theorem dotTells_wf : Rows.dotTellsUptoRow.wfByText (Rows.OpenSpec.upto Rows.dotTellsSpec) = true := by kernel_rfl
theorem dotTells_main : Tryz.pinned.checked.prog.mainIs = some (Rows.dotTellsUptoCard.stood.harness.1, Rows.dotTellsUptoCard.stood.harness.2.toList) := by kernel_rfl
theorem dotTells_goes : false = Rows.dotTellsUptoRow.goesBy Tryz.pinned.checked.prog := by kernel_rfl
end Go.Proofs.YtlbnafnbjgageaaGreatDoor
