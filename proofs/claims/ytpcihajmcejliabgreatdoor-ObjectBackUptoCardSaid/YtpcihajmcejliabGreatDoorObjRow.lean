/- Bytes that Put has made, as a text. -/
import Derived.Test.YtpcihajmcejliabGreatDoorObjPut
namespace Go.Proofs.YtpcihajmcejliabGreatDoor
open Go.RowKit
namespace objlaw
theorem objL_pos (x : FObj) : 0 < (objL x).length := by
  unfold objL faceL
  repeat rw [List.length_append]
  rw [obj.text_len]
  omega
/-- a row of bytes that a call has made, as a text -/
theorem row_text {w : World} {B : Nat} {r : Value} {l : List UInt8} (h : w.ownsRow B 5 1 r l.length (bytesV l)) (hl : 0 < l.length) :
    ∃ g cap, r = .slice (some ⟨g, 0, none⟩) l.length cap ∧ ∀ w', Ext w w' → (convert 59 9 (.slice (some ⟨g, 0, none⟩) l.length cap)).run Tryz.prog w' = .ok (.string ⟨l.toArray⟩) w' := by
  rcases h.2 with ⟨rfl, h0⟩ | ⟨g, cap, cur, rfl, hrest⟩
  · omega
  · refine ⟨g, cap, rfl, fun w' hE => ?_⟩
    have hlt := (h.lt g rfl).2
    refine run_convert_bytes_back w' 59 9 5 ⟨g, 0, none⟩ cap l Tryz.underlying59 Tryz.underlying5 Tryz.underlying9 fun j hj => ?_
    have e : (⟨g, 0, none⟩ : Addr).add j = ⟨g, j, none⟩ := by unfold Addr.add; split <;> simp_all
    rw [e, hE.cell (p := ⟨g, j, none⟩) hlt id, h.cellAt j (by omega)]
    simp [bytesV, hj]
end objlaw
end Go.Proofs.YtpcihajmcejliabGreatDoor
