/- The law FaceOwn: what the row's closed cells come to (one great equation for the kernel, in a text of its own for the memory's sake). -/
import Derived.Test.YtpcihajmcejliabGreatDoorRows
import Derived.JoinedOf
namespace Go.Proofs.YtpcihajmcejliabGreatDoor.faceOwn
theorem named : Tryz.pinned.checked.prog.funcNamed Rows.faceOwnRow.func = some 10 := by kernel_rfl
theorem inst : Tryz.f10.isInstance Tryz.pinned.checked.prog Rows.faceOwnRow.origin Rows.faceOwnRow.targs := of_decide_eq_true (by kernel_rfl)
theorem wrapper : Tryz.f10.isWrapper Tryz.pinned.checked.prog Rows.faceOwnRow.wrapper Rows.faceOwnRow.mainSum := by unfold Func.isWrapper; first | (rw [if_pos (by decide +kernel)]; kernel_rfl) | (rw [if_neg (by decide +kernel)]; exact ⟨rfl, rfl⟩)
set_option maxHeartbeats 4000000 in
theorem joined : joinedFacts Tryz.pinned.checked.prog 10 Tryz.f10 Rows.faceOwnSpec Rows.faceOwnRow = true := by
 unfold joinedFacts; simp only [Bool.and_eq_true]
 repeat' apply And.intro
 all_goals as_aux_lemma => kernel_rfl
end Go.Proofs.YtpcihajmcejliabGreatDoor.faceOwn
