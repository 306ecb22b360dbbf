/- The law SyntaxPrints: what the row's closed cells come to (one great equation for the kernel, in a text of its own for the memory's sake). -/
import Derived.Test.YtpcihajmcejliabGreatDoorRows
import Derived.JoinedOf
namespace Go.Proofs.YtpcihajmcejliabGreatDoor.syntaxPrints
theorem named : Tryz.pinned.checked.prog.funcNamed Rows.syntaxPrintsRow.func = some 7 := by kernel_rfl
theorem inst : Tryz.f7.isInstance Tryz.pinned.checked.prog Rows.syntaxPrintsRow.origin Rows.syntaxPrintsRow.targs := of_decide_eq_true (by kernel_rfl)
theorem wrapper : Tryz.f7.isWrapper Tryz.pinned.checked.prog Rows.syntaxPrintsRow.wrapper Rows.syntaxPrintsRow.mainSum := by unfold Func.isWrapper; first | (rw [if_pos (by decide +kernel)]; kernel_rfl) | (rw [if_neg (by decide +kernel)]; exact ⟨rfl, rfl⟩)
set_option maxHeartbeats 4000000 in
theorem joined : joinedFacts Tryz.pinned.checked.prog 7 Tryz.f7 Rows.syntaxPrintsSpec Rows.syntaxPrintsRow = true := by
 unfold joinedFacts; simp only [Bool.and_eq_true]
 repeat' apply And.intro
 all_goals as_aux_lemma => kernel_rfl
end Go.Proofs.YtpcihajmcejliabGreatDoor.syntaxPrints
