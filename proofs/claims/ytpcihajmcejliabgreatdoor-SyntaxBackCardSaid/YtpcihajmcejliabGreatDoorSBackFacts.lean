/- The law SyntaxBack: what the row's closed cells come to (one great equation for the kernel, in a text of its own for the memory's sake). -/
import Derived.Test.YtpcihajmcejliabGreatDoorRows
import Derived.JoinedOf
namespace Go.Proofs.YtpcihajmcejliabGreatDoor.syntaxBack
theorem named : Tryz.pinned.checked.prog.funcNamed Rows.syntaxBackRow.func = some 13 := by kernel_rfl
theorem inst : Tryz.f13.isInstance Tryz.pinned.checked.prog Rows.syntaxBackRow.origin Rows.syntaxBackRow.targs := of_decide_eq_true (by kernel_rfl)
theorem wrapper : Tryz.f13.isWrapper Tryz.pinned.checked.prog Rows.syntaxBackRow.wrapper Rows.syntaxBackRow.mainSum := by unfold Func.isWrapper; first | (rw [if_pos (by decide +kernel)]; kernel_rfl) | (rw [if_neg (by decide +kernel)]; exact ⟨rfl, rfl⟩)
set_option maxHeartbeats 4000000 in
theorem joined : joinedFacts Tryz.pinned.checked.prog 13 Tryz.f13 Rows.syntaxBackSpec Rows.syntaxBackRow = true := by
 unfold joinedFacts; simp only [Bool.and_eq_true]
 repeat' apply And.intro
 all_goals as_aux_lemma => kernel_rfl
end Go.Proofs.YtpcihajmcejliabGreatDoor.syntaxBack
