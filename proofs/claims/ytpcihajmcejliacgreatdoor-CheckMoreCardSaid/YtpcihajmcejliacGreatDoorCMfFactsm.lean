/- The law CheckMore: what the row's closed cells come to (one great equation for the kernel, in a text of its own for the memory's sake). -/
import Derived.Test.YtpcihajmcejliacGreatDoorRows
import Derived.JoinedOf
namespace Go.Proofs.YtpcihajmcejliacGreatDoor.checkMore
theorem named:Tryz.pinned.checked.prog.funcNamed Rows.checkMoreRow.func=some 4:=by kernel_rfl
theorem inst:Tryz.f4.isInstance Tryz.pinned.checked.prog Rows.checkMoreRow.origin Rows.checkMoreRow.targs:=of_decide_eq_true (by kernel_rfl)
theorem wrapper:Tryz.f4.isWrapper Tryz.pinned.checked.prog Rows.checkMoreRow.wrapper Rows.checkMoreRow.mainSum:=by unfold Func.isWrapper;first|(rw [if_pos (by decide +kernel)];kernel_rfl)|(rw [if_neg (by decide +kernel)];exact⟨rfl,rfl⟩)
set_option maxHeartbeats 4000000 in
theorem joined:joinedFacts Tryz.pinned.checked.prog 4 Tryz.f4 Rows.checkMoreSpec Rows.checkMoreRow=true:=by
 unfold joinedFacts;simp only [Bool.and_eq_true]
 repeat' apply And.intro
 all_goals as_aux_lemma=>kernel_rfl
end Go.Proofs.YtpcihajmcejliacGreatDoor.checkMore
