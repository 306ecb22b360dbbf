/- Many cells of one block stored one behind the other. -/
import Derived.Test.YtpcihajmcejliabDoorFrame
namespace Go.Proofs.YtpcihajmcejliabDoor
open Go.RowKit
/-- cells stored from a place on -/
def sets (w : World) (b : Nat) (o : Nat) : List Value → World
  | [] => w
  | v :: r => sets (w.setCell ⟨b, o, none⟩ v) b (o + 1) r
/-- the cells behind it -/
def put (c : Array Value) (o : Nat) : List Value → Array Value
  | [] => c
  | v :: r => put (c.setIfInBounds o v) (o + 1) r
theorem sets_chg (w : World) (b : Nat) (l : List Value) : ∀ o, Chg (fun i => i = b) w (sets w b o l) := by
  induction l generalizing w with
  | nil => exact fun _ => Chg.refl _ _
  | cons v r ih => exact fun o => ((Chg.refl (fun i => i = b) w).setCell (p := ⟨b, o, none⟩) (fun _ => rfl) v).then (ih _ (o + 1))
theorem Blk.sets {w : World} {b : Nat} {c : Array Value} {T : TypeId} (l : List Value) : ∀ (o : Nat) (_ : Blk w b c T), Blk (sets w b o l) b (put c o l) T := by
  induction l generalizing w c with
  | nil => exact fun _ h => h
  | cons v r ih => exact fun o h => ih (o + 1) (h.set o v)
theorem put_list (l : List Value) : ∀ (a b : List Value), b.length = l.length → put (a ++ b).toArray a.length l = (a ++ l).toArray := by
  induction l with
  | nil => intro a b h; rw [List.eq_nil_of_length_eq_zero h]; rfl
  | cons v r ih =>
    intro a b h
    cases b with
    | nil => simp at h
    | cons c b =>
      have e : (a ++ c :: b).toArray.setIfInBounds a.length v = ((a ++ [v]) ++ b).toArray := by simp
      rw [put, e]
      have := ih (a ++ [v]) b (by simpa using h)
      rw [List.length_append, List.length_singleton] at this
      rw [this]
      simp
/-- a whole block stored anew -/
theorem Blk.setsAll {w : World} {b : Nat} {c : Array Value} {T : TypeId} (h : Blk w b c T) (l : List Value) (hl : c.size = l.length) : Blk (Go.Proofs.YtpcihajmcejliabDoor.sets w b 0 l) b l.toArray T := by
  have := Blk.sets l 0 h
  have e := put_list l [] c.toList (by rw [Array.length_toList]; exact hl)
  simp only [List.nil_append, List.length_nil, Array.toArray_toList] at e
  rwa [e] at this
theorem Blk.setsOther {w : World} {a b : Nat} {c : Array Value} {T : TypeId} (h : Blk w a c T) (hne : a ≠ b) (o : Nat) (l : List Value) : Blk (Go.Proofs.YtpcihajmcejliabDoor.sets w b o l) a c T := h.chg (sets_chg w b l o) hne
theorem sets_size (w : World) (b o : Nat) (l : List Value) : (sets w b o l).heap.size = w.heap.size := by
  induction l generalizing w o with
  | nil => rfl
  | cons v r ih => rw [sets, ih]; simp [World.setCell]
end Go.Proofs.YtpcihajmcejliabDoor
