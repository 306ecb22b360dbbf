/- The law LinkStale: what the row's closed cells come to (one great equation for the kernel, in a text of its own for the memory's sake). -/
import Derived.Test.YtpcihajmcejliabDoorRows
import Derived.JoinedOf
namespace Go.Proofs.YtpcihajmcejliabDoor.linkStale
theorem named : Tryd.pinned.checked.prog.funcNamed Rows.linkStaleUptoRow.func = some 3 := by kernel_rfl
theorem inst : Tryd.f3.isInstance Tryd.pinned.checked.prog Rows.linkStaleUptoRow.origin Rows.linkStaleUptoRow.targs := of_decide_eq_true (by kernel_rfl)
theorem wrapper : Tryd.f3.isWrapper Tryd.pinned.checked.prog Rows.linkStaleUptoRow.wrapper Rows.linkStaleUptoRow.mainSum := by unfold Func.isWrapper; first | (rw [if_pos (by decide +kernel)]; kernel_rfl) | (rw [if_neg (by decide +kernel)]; exact ⟨rfl, rfl⟩)
set_option maxHeartbeats 4000000 in
theorem joined : joinedFacts Tryd.pinned.checked.prog 3 Tryd.f3 (Rows.OpenSpec.upto Rows.linkStaleSpec).bare Rows.linkStaleUptoRow = true := by
  unfold joinedFacts
  simp only [Bool.and_eq_true]
  repeat' apply And.intro
  all_goals as_aux_lemma => kernel_rfl
end Go.Proofs.YtpcihajmcejliabDoor.linkStale
