/- The law CheckRaised: what the row's closed cells come to (one great equation for the kernel, in a text of its own for the memory's sake). -/
import Derived.Test.YtpcihajmcejliacGreatDoorRows
import Derived.JoinedOf
namespace Go.Proofs.YtpcihajmcejliacGreatDoor.checkRaised
theorem named:Tryz.pinned.checked.prog.funcNamed Rows.checkRaisedRow.func=some 12:=by kernel_rfl
theorem inst:Tryz.f12.isInstance Tryz.pinned.checked.prog Rows.checkRaisedRow.origin Rows.checkRaisedRow.targs:=of_decide_eq_true (by kernel_rfl)
theorem wrapper:Tryz.f12.isWrapper Tryz.pinned.checked.prog Rows.checkRaisedRow.wrapper Rows.checkRaisedRow.mainSum:=by unfold Func.isWrapper;first|(rw [if_pos (by decide +kernel)];kernel_rfl)|(rw [if_neg (by decide +kernel)];exact⟨rfl,rfl⟩)
set_option maxHeartbeats 4000000 in
theorem joined:joinedFacts Tryz.pinned.checked.prog 12 Tryz.f12 Rows.checkRaisedSpec Rows.checkRaisedRow=true:=by
 unfold joinedFacts;simp only [Bool.and_eq_true]
 repeat' apply And.intro
 all_goals as_aux_lemma=>kernel_rfl
end Go.Proofs.YtpcihajmcejliacGreatDoor.checkRaised
