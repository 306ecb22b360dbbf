/- The walk of the program's reader: its lists. -/
import Derived.Test.YtpcihajmcejliabDoorGetA
import Derived.Deep.AppendLies
import Derived.OwnWalk
namespace Go.Proofs.YtpcihajmcejliabDoor
open Go.RowKit
/-- what has been read, ahead of what is read on -/
def rdPre {α : Type} (xs : List α) : Option (List α × List UInt8) → Option (List α × List UInt8)
  | none => none
  | some (ys, r) => some (xs ++ ys, r)
namespace getm
theorem pre_nil {α : Type} (o : Option (List α × List UInt8)) : rdPre [] o = o := by
  cases o <;> rfl
theorem pre_none {α : Type} {xs : List α} {o : Option (List α × List UInt8)} (h : o = none) : rdPre xs o = none := by subst h; rfl
theorem many_none {α : Type} {p : Prs α} {q : Nat} {r : List UInt8} (h : p r = none) : rdMany p (q + 1) r = none := by unfold rdMany; rw [h]
theorem pre_some {α : Type} {p : Prs α} {q : Nat} {r r2 : List UInt8} {xs : List α} {x : α} (h : p r = some (x, r2)) : rdPre xs (rdMany p (q + 1) r) = rdPre (xs ++ [x]) (rdMany p q r2) := by
  have e : rdMany p (q + 1) r = match rdMany p q r2 with
      | none => none
      | some (xs, r2) => some (x :: xs, r2) := by
    conv => lhs; unfold rdMany
    rw [h]
    rfl
  rw [e]
  cases rdMany p q r2 with
  | none => rfl
  | some o => obtain ⟨ys, r3⟩ := o; simp [rdPre]
theorem pre_end {α : Type} {p : Prs α} (xs : List α) (r : List UInt8) : rdPre xs (rdMany p 0 r) = some (xs, r) := by simp [rdPre, rdMany]
end getm
namespace getw
theorem news_at {w : World} {cs : List Value} {c : Array Value} {t : TypeId} {k : Nat} (hs : w.heap.size = k) (hc : c = cs.toArray) : ∀ j u, cs[j]? = some u → (w.alloc (.cells c t)).cell? ((⟨k, 0, none⟩ : Addr).add j) = some u := by
  subst hs hc
  intro j u hj
  have e : (⟨w.heap.size, 0, none⟩ : Addr).add j = ⟨w.heap.size, j, none⟩ := by unfold Addr.add; split <;> simp_all
  rw [e, (Blk.made w cs.toArray t).cell]
  simpa using hj
theorem grow_base {α : Type} {k : Nat} {E : TypeId} {V : α → Value → World → Prop} {B : Nat} {w : World} {v : Value} {l : List α} (h : Grow k E V B w v l) : ∀ i, v.ownBlock = some i → B ≤ i ∧ i < w.heap.size := by
  obtain ⟨xs, hx⟩ := h.own
  exact hx.lt
/-- what is new is no part of a row that was there -/
theorem new_apart {B B2 : Nat} {w : World} {v : Value} (h : ∀ i, v.ownBlock = some i → B ≤ i ∧ i < B2) (hB : B ≤ B2) : Keeps (hide (below B2) w) (hide (rowHid B v) w) := keeps_hide (Nat.le_refl _) fun i hi hm => by
  simp only [rowHid, below, Bool.or_eq_false_iff, decide_eq_false_iff_not] at hm ⊢
  exact ⟨⟨by omega, fun e => by have := (h i e).2; omega⟩, trivial⟩
theorem info_int : (Tryd.prog.info? 3).map (fun i => (i.zero, i.size, i.bytes)) = some (some (.int .i64 0), 1, 8) := by kernel_rfl
theorem info_var : (Tryd.prog.info? 41).map (fun i => (i.zero, i.size, i.bytes)) = some (some (.agg #[.string ⟨#[]⟩, .bool false, .int .i64 0, .int .i64 0]), 4, 40) := by kernel_rfl
theorem info_proc : (Tryd.prog.info? 62).map (fun i => (i.zero, i.size, i.bytes)) = some (some (.agg #[.string ⟨#[]⟩, .bool false, .slice none 0 0, .int .i64 0, .bool false, .int .i64 0]), 6, 72) := by kernel_rfl
theorem info_face : (Tryd.prog.info? 34).map (fun i => (i.zero, i.size, i.bytes)) = some (some (.agg #[.string ⟨#[]⟩, .slice none 0 0, .slice none 0 0]), 3, 64) := by kernel_rfl
theorem info_plc : (Tryd.prog.info? 73).map (fun i => (i.zero, i.size, i.bytes)) = some (some (.agg #[.string ⟨#[]⟩, .int .i64 0]), 2, 24) := by kernel_rfl
theorem info_ins : (Tryd.prog.info? 64).map (fun i => (i.zero, i.size, i.bytes)) = some (some (.agg #[.int .i64 0, .int .i64 0, .int .i64 0, .int .i64 0, .int .i64 0]), 5, 40) := by kernel_rfl
theorem info_rel : (Tryd.prog.info? 56).map (fun i => (i.zero, i.size, i.bytes)) = some (some (.agg #[.int .i64 0, .int .i64 0, .string ⟨#[]⟩, .string ⟨#[]⟩]), 4, 48) := by kernel_rfl
end getw
end Go.Proofs.YtpcihajmcejliabDoor
