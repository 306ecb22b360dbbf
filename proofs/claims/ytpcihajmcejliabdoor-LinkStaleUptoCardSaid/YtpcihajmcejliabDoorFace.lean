/- The walks of chapter 4's small functions: what a label is; a text's place in a list; whether two rows, two procedures are one. -/
import Derived.Test.YtpcihajmcejliabDoorFaceMath
namespace Go.Proofs.YtpcihajmcejliabDoor
open Go.RowKit
namespace face
theorem label_any (n : Int) (w : World) : Calls Tryd.prog 29 #[.int .i64 n] w fun e w' => e = .returned (.bool (labB n)) ∧ w' = w := by
  go_enter Tryd.func29, Tryd.ntmps29
  go_wp2
  all_goals go_ret
  all_goals go_light
  all_goals refine ⟨ret_bool ?_, rfl⟩
  all_goals simp_all [labB]
/-- cells that hold words -/
def WordIn (w : World) (b o : Nat) (x : ByteArray) : Prop := w.cell? ⟨b, o, none⟩ = some (.string x)
def PlacePost (B : Bool) (e : Ending) : Prop := ∃ k : Int, e = .returned (.int .i64 k) ∧ decide (0 ≤ k) = B
end face
end Go.Proofs.YtpcihajmcejliabDoor
