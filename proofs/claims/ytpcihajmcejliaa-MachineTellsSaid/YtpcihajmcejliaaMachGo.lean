/- The reference's run: how it begins. -/
import Derived.Test.YtpcihajmcejliaaMachRStep
namespace Go.Proofs.Ytpcihajmcejliaa
open Go.RowKit
open mst
/-- a machine at its beginning -/
def zeroM (lo hi : Nat) : Mst := { r := fun _ => 0, lo := List.replicate lo 0, hi := List.replicate hi 0, calls := [], pc := 0, o0 := [], o1 := [], u0 := 0, u1 := 0 }
/-- a slice of numbers among what was there below B -/
def InB (w : World) (B : Nat) (v : Value) (l : List Int) : Prop :=
  ∃ A c, v = .slice A l.length c ∧ ∀ k (hk : k < l.length), ∃ g o, A = some ⟨g, o, none⟩ ∧ g < B ∧ w.cell? ⟨g, o + k, none⟩ = some (.int .i64 l[k])
theorem InB.mono {w w' : World} {B B' : Nat} {v : Value} {l : List Int} (h : InB w B v l) (hw : Below B w w') (hB : B ≤ B') : InB w' B' v l := by
  obtain ⟨A, c, hv, h⟩ := h
  refine ⟨A, c, hv, fun k hk => ?_⟩
  obtain ⟨g, o, hA, hg, hc⟩ := h k hk
  exact ⟨g, o, hA, by omega, (hw.cell (p := ⟨g, o + k, none⟩) hg).trans hc⟩
theorem InB.len {w : World} {B : Nat} {v : Value} {l : List Int} (h : InB w B v l) : ∃ A c, v = .slice A l.length c := by
  obtain ⟨A, c, hv, -⟩ := h; exact ⟨A, c, hv⟩
/-- a row that has something in it -/
theorem InB.some {w : World} {B : Nat} {v : Value} {l : List Int} (h : InB w B v l) (h0 : 0 < l.length) : ∃ g o c, v = .slice (some ⟨g, o, none⟩) l.length c ∧ g < B ∧ ∀ k, k < l.length → w.cell? ⟨g, o + k, none⟩ = some (.int .i64 (l.getD k 0)) := by
  obtain ⟨A, c, hv, h⟩ := h
  obtain ⟨g, o, rfl, hg, -⟩ := h 0 h0
  refine ⟨g, o, c, hv, hg, fun k hk => ?_⟩
  obtain ⟨g', o', e, -, hc⟩ := h k hk
  simp only [Option.some.injEq, Addr.mk.injEq] at e
  obtain ⟨rfl, rfl, -⟩ := e
  rw [hc]
  simp [List.getD_eq_getElem?_getD, List.getElem?_eq_getElem hk]
namespace mst
def startOwn (B S gr g0 g1 : Nat) : Nat → Nat := fun k => if k < B then 5 else if k = S then 0 else if k = g0 then 1 else if k = g1 then 2 else if k = gr then 8 else 9
def startCells (v0 v1 : Value) (gr g0 g1 lo hi : Nat) : Nat → Value := fun j =>
  if j = 0 then .int .i64 0 else if j = 1 then .slice none 0 0 else if j = 2 then .slice none 0 0 else if j = 3 then .int .i64 0 else if j = 4 then .int .i64 0 else if j = 5 then .int .i64 0
  else if j = 6 then .slice (some ⟨gr, 0, none⟩) 8 8 else if j = 7 then .slice (some ⟨g0, 0, none⟩) lo lo else if j = 8 then .slice (some ⟨g1, 0, none⟩) hi hi else if j = 9 then v0 else if j = 10 then v1
  else if j = 11 then .slice none 0 0 else .int .i64 0
theorem rstart {w : World} {B S gr g0 g1 lo hi : Nat} {v0 v1 : Value} {i0 i1 : List Int} (hS : w.rowIs S 44 13 (startCells v0 v1 gr g0 g1 lo hi))
    (hr : w.rowIs gr 2 8 (fun _ => .int .i64 0)) (h0 : w.rowIs g0 2 lo (fun _ => .int .i64 0)) (h1 : w.rowIs g1 2 hi (fun _ => .int .i64 0))
    (bS : B ≤ S) (br : B ≤ gr) (b0 : B ≤ g0) (b1 : B ≤ g1) (n1 : g0 ≠ S) (n2 : g1 ≠ S) (n3 : gr ≠ S) (n4 : g1 ≠ g0) (n5 : gr ≠ g0) (n6 : gr ≠ g1)
    (q0 : InB w B v0 i0) (q1 : InB w B v1 i1) : RMem w B S i0 i1 0 0 (zeroM lo hi) := by
  have hin : ∀ {v l}, InB w B v l → InO w (startOwn B S gr g0 g1) 5 v l := by
    rintro v l ⟨A, c, hv, h⟩
    refine ⟨A, c, hv, fun k hk => ?_⟩
    obtain ⟨g, o, hA, hg, hc⟩ := h k hk
    exact ⟨g, o, hA, by unfold startOwn; rw [if_pos hg], hc⟩
  have hrep : ∀ n j, (List.replicate n (0 : Int)).getD j 0 = 0 := by
    intro n j
    rw [List.getD_eq_getElem?_getD]
    by_cases hj : j < n
    · simp [hj]
    · simp [Nat.le_of_not_lt hj]
  refine ⟨startOwn B S gr g0 g1, startCells v0 v1 gr g0 g1 lo hi, .slice none 0 0, .slice none 0 0, v0, v1, .slice none 0 0, g0, g1, gr,
    { blk := hS, oS := ?_, hS := bS, fs := ?_, lo := ⟨?_, ?_, b0⟩, hi := ⟨?_, ?_, b1⟩, ol := ⟨World.ownsRow_nil _ _ _ _, ?_⟩, oh := ⟨World.ownsRow_nil _ _ _ _, ?_⟩, in0 := hin q0, in1 := hin q1, cl := ⟨World.ownsRow_nil _ _ _ _, ?_⟩, rg := hr, og := ?_, hg := br }⟩
  · unfold startOwn; rw [if_neg (by omega), if_pos rfl]
  · exact ⟨rfl, rfl, rfl, rfl, rfl, rfl, by simp [startCells, zeroM], by simp [startCells, zeroM], rfl, rfl, rfl, rfl, rfl⟩
  · simp only [zeroM, hrep, List.length_replicate]; exact h0
  · unfold startOwn; rw [if_neg (by omega), if_neg n1, if_pos rfl]
  · simp only [zeroM, hrep, List.length_replicate]; exact h1
  · unfold startOwn; rw [if_neg (by omega), if_neg n2, if_neg n4, if_pos rfl]
  · intro g e; cases e
  · intro g e; cases e
  · intro g e; cases e
  · unfold startOwn; rw [if_neg (by omega), if_neg n3, if_neg n5, if_neg n6, if_pos rfl]
theorem made_at {w : World} {z : Value} {n b : Nat} {t : TypeId} (hs : b = w.heap.size) : (w.alloc (.cells (madeCells #[z] n) t)).rowIs b t n (fun _ => z) := by
  subst hs; exact World.rowIs_made w z n t
theorem state_at {w : World} {v0 v1 : Value} {gr g0 g1 lo hi b : Nat} (hs : b = w.heap.size) : (w.alloc (.cells #[.int .i64 0, .slice none 0 0, .slice none 0 0, .int .i64 0, .int .i64 0, .int .i64 0, .slice (some ⟨gr, 0, none⟩) 8 8, .slice (some ⟨g0, 0, none⟩) lo lo, .slice (some ⟨g1, 0, none⟩) hi hi, v0, v1, .slice none 0 0, .int .i64 0] 44)).rowIs b 44 13 (startCells v0 v1 gr g0 g1 lo hi) := by
  subst hs
  refine World.rowIs_alloc w _ _ _ (fun i hi => ?_)
  have : i < 13 := hi
  match i, this with
  | 0, _ => rfl
  | 1, _ => rfl
  | 2, _ => rfl
  | 3, _ => rfl
  | 4, _ => rfl
  | 5, _ => rfl
  | 6, _ => rfl
  | 7, _ => rfl
  | 8, _ => rfl
  | 9, _ => rfl
  | 10, _ => rfl
  | 11, _ => rfl
  | 12, _ => rfl
theorem start_rlh {W : World} {B S gr g0 g1 lo hi : Nat} {v0 v1 : Value} {i0 i1 : List Int} (hB : B ≤ W.heap.size) (er : gr = W.heap.size + 0) (el : g0 = W.heap.size + 1) (eh : g1 = W.heap.size + 2) (eS : S = W.heap.size + 3) (q0 : InB W B v0 i0) (q1 : InB W B v1 i1) :
    RMem ((((W.alloc (.cells (madeCells #[.int .i64 0] 8) 2)).alloc (.cells (madeCells #[.int .i64 0] lo) 2)).alloc (.cells (madeCells #[.int .i64 0] hi) 2)).alloc (.cells #[.int .i64 0, .slice none 0 0, .slice none 0 0, .int .i64 0, .int .i64 0, .int .i64 0, .slice (some ⟨gr, 0, none⟩) 8 8, .slice (some ⟨g0, 0, none⟩) lo lo, .slice (some ⟨g1, 0, none⟩) hi hi, v0, v1, .slice none 0 0, .int .i64 0] 44)).drew B S i0 i1 0 0 (zeroM lo hi) ∧ Below B W ((((W.alloc (.cells (madeCells #[.int .i64 0] 8) 2)).alloc (.cells (madeCells #[.int .i64 0] lo) 2)).alloc (.cells (madeCells #[.int .i64 0] hi) 2)).alloc (.cells #[.int .i64 0, .slice none 0 0, .slice none 0 0, .int .i64 0, .int .i64 0, .int .i64 0, .slice (some ⟨gr, 0, none⟩) 8 8, .slice (some ⟨g0, 0, none⟩) lo lo, .slice (some ⟨g1, 0, none⟩) hi hi, v0, v1, .slice none 0 0, .int .i64 0] 44)).drew := by
  have hb : Below B W ((((W.alloc (.cells (madeCells #[.int .i64 0] 8) 2)).alloc (.cells (madeCells #[.int .i64 0] lo) 2)).alloc (.cells (madeCells #[.int .i64 0] hi) 2)).alloc (.cells #[.int .i64 0, .slice none 0 0, .slice none 0 0, .int .i64 0, .int .i64 0, .int .i64 0, .slice (some ⟨gr, 0, none⟩) 8 8, .slice (some ⟨g0, 0, none⟩) lo lo, .slice (some ⟨g1, 0, none⟩) hi hi, v0, v1, .slice none 0 0, .int .i64 0] 44)).drew := (((((Below.refl _ _).alloc hB _).alloc (by first | omega | (simp; omega)) _).alloc (by first | omega | (simp; omega)) _).alloc (by first | omega | (simp; omega)) _).drew
  exact ⟨rstart (World.rowIs.drew (state_at (by first | omega | (simp; omega)))) (World.rowIs.drew (World.rowIs.alloc (World.rowIs.alloc (World.rowIs.alloc (made_at (by first | omega | (simp; omega))) _) _) _)) (World.rowIs.drew (World.rowIs.alloc (World.rowIs.alloc (made_at (by first | omega | (simp; omega))) _) _)) (World.rowIs.drew (World.rowIs.alloc (made_at (by first | omega | (simp; omega))) _)) (by omega) (by omega) (by omega) (by omega) (by omega) (by omega) (by omega) (by omega) (by omega) (by omega) (q0.mono hb (Nat.le_refl _)) (q1.mono hb (Nat.le_refl _)), hb⟩
theorem start_rhl {W : World} {B S gr g0 g1 lo hi : Nat} {v0 v1 : Value} {i0 i1 : List Int} (hB : B ≤ W.heap.size) (er : gr = W.heap.size + 0) (eh : g1 = W.heap.size + 1) (el : g0 = W.heap.size + 2) (eS : S = W.heap.size + 3) (q0 : InB W B v0 i0) (q1 : InB W B v1 i1) :
    RMem ((((W.alloc (.cells (madeCells #[.int .i64 0] 8) 2)).alloc (.cells (madeCells #[.int .i64 0] hi) 2)).alloc (.cells (madeCells #[.int .i64 0] lo) 2)).alloc (.cells #[.int .i64 0, .slice none 0 0, .slice none 0 0, .int .i64 0, .int .i64 0, .int .i64 0, .slice (some ⟨gr, 0, none⟩) 8 8, .slice (some ⟨g0, 0, none⟩) lo lo, .slice (some ⟨g1, 0, none⟩) hi hi, v0, v1, .slice none 0 0, .int .i64 0] 44)).drew B S i0 i1 0 0 (zeroM lo hi) ∧ Below B W ((((W.alloc (.cells (madeCells #[.int .i64 0] 8) 2)).alloc (.cells (madeCells #[.int .i64 0] hi) 2)).alloc (.cells (madeCells #[.int .i64 0] lo) 2)).alloc (.cells #[.int .i64 0, .slice none 0 0, .slice none 0 0, .int .i64 0, .int .i64 0, .int .i64 0, .slice (some ⟨gr, 0, none⟩) 8 8, .slice (some ⟨g0, 0, none⟩) lo lo, .slice (some ⟨g1, 0, none⟩) hi hi, v0, v1, .slice none 0 0, .int .i64 0] 44)).drew := by
  have hb : Below B W ((((W.alloc (.cells (madeCells #[.int .i64 0] 8) 2)).alloc (.cells (madeCells #[.int .i64 0] hi) 2)).alloc (.cells (madeCells #[.int .i64 0] lo) 2)).alloc (.cells #[.int .i64 0, .slice none 0 0, .slice none 0 0, .int .i64 0, .int .i64 0, .int .i64 0, .slice (some ⟨gr, 0, none⟩) 8 8, .slice (some ⟨g0, 0, none⟩) lo lo, .slice (some ⟨g1, 0, none⟩) hi hi, v0, v1, .slice none 0 0, .int .i64 0] 44)).drew := (((((Below.refl _ _).alloc hB _).alloc (by first | omega | (simp; omega)) _).alloc (by first | omega | (simp; omega)) _).alloc (by first | omega | (simp; omega)) _).drew
  exact ⟨rstart (World.rowIs.drew (state_at (by first | omega | (simp; omega)))) (World.rowIs.drew (World.rowIs.alloc (World.rowIs.alloc (World.rowIs.alloc (made_at (by first | omega | (simp; omega))) _) _) _)) (World.rowIs.drew (World.rowIs.alloc (made_at (by first | omega | (simp; omega))) _)) (World.rowIs.drew (World.rowIs.alloc (World.rowIs.alloc (made_at (by first | omega | (simp; omega))) _) _)) (by omega) (by omega) (by omega) (by omega) (by omega) (by omega) (by omega) (by omega) (by omega) (by omega) (q0.mono hb (Nat.le_refl _)) (q1.mono hb (Nat.le_refl _)), hb⟩
theorem start_lrh {W : World} {B S gr g0 g1 lo hi : Nat} {v0 v1 : Value} {i0 i1 : List Int} (hB : B ≤ W.heap.size) (el : g0 = W.heap.size + 0) (er : gr = W.heap.size + 1) (eh : g1 = W.heap.size + 2) (eS : S = W.heap.size + 3) (q0 : InB W B v0 i0) (q1 : InB W B v1 i1) :
    RMem ((((W.alloc (.cells (madeCells #[.int .i64 0] lo) 2)).alloc (.cells (madeCells #[.int .i64 0] 8) 2)).alloc (.cells (madeCells #[.int .i64 0] hi) 2)).alloc (.cells #[.int .i64 0, .slice none 0 0, .slice none 0 0, .int .i64 0, .int .i64 0, .int .i64 0, .slice (some ⟨gr, 0, none⟩) 8 8, .slice (some ⟨g0, 0, none⟩) lo lo, .slice (some ⟨g1, 0, none⟩) hi hi, v0, v1, .slice none 0 0, .int .i64 0] 44)).drew B S i0 i1 0 0 (zeroM lo hi) ∧ Below B W ((((W.alloc (.cells (madeCells #[.int .i64 0] lo) 2)).alloc (.cells (madeCells #[.int .i64 0] 8) 2)).alloc (.cells (madeCells #[.int .i64 0] hi) 2)).alloc (.cells #[.int .i64 0, .slice none 0 0, .slice none 0 0, .int .i64 0, .int .i64 0, .int .i64 0, .slice (some ⟨gr, 0, none⟩) 8 8, .slice (some ⟨g0, 0, none⟩) lo lo, .slice (some ⟨g1, 0, none⟩) hi hi, v0, v1, .slice none 0 0, .int .i64 0] 44)).drew := by
  have hb : Below B W ((((W.alloc (.cells (madeCells #[.int .i64 0] lo) 2)).alloc (.cells (madeCells #[.int .i64 0] 8) 2)).alloc (.cells (madeCells #[.int .i64 0] hi) 2)).alloc (.cells #[.int .i64 0, .slice none 0 0, .slice none 0 0, .int .i64 0, .int .i64 0, .int .i64 0, .slice (some ⟨gr, 0, none⟩) 8 8, .slice (some ⟨g0, 0, none⟩) lo lo, .slice (some ⟨g1, 0, none⟩) hi hi, v0, v1, .slice none 0 0, .int .i64 0] 44)).drew := (((((Below.refl _ _).alloc hB _).alloc (by first | omega | (simp; omega)) _).alloc (by first | omega | (simp; omega)) _).alloc (by first | omega | (simp; omega)) _).drew
  exact ⟨rstart (World.rowIs.drew (state_at (by first | omega | (simp; omega)))) (World.rowIs.drew (World.rowIs.alloc (World.rowIs.alloc (made_at (by first | omega | (simp; omega))) _) _)) (World.rowIs.drew (World.rowIs.alloc (World.rowIs.alloc (World.rowIs.alloc (made_at (by first | omega | (simp; omega))) _) _) _)) (World.rowIs.drew (World.rowIs.alloc (made_at (by first | omega | (simp; omega))) _)) (by omega) (by omega) (by omega) (by omega) (by omega) (by omega) (by omega) (by omega) (by omega) (by omega) (q0.mono hb (Nat.le_refl _)) (q1.mono hb (Nat.le_refl _)), hb⟩
theorem start_lhr {W : World} {B S gr g0 g1 lo hi : Nat} {v0 v1 : Value} {i0 i1 : List Int} (hB : B ≤ W.heap.size) (el : g0 = W.heap.size + 0) (eh : g1 = W.heap.size + 1) (er : gr = W.heap.size + 2) (eS : S = W.heap.size + 3) (q0 : InB W B v0 i0) (q1 : InB W B v1 i1) :
    RMem ((((W.alloc (.cells (madeCells #[.int .i64 0] lo) 2)).alloc (.cells (madeCells #[.int .i64 0] hi) 2)).alloc (.cells (madeCells #[.int .i64 0] 8) 2)).alloc (.cells #[.int .i64 0, .slice none 0 0, .slice none 0 0, .int .i64 0, .int .i64 0, .int .i64 0, .slice (some ⟨gr, 0, none⟩) 8 8, .slice (some ⟨g0, 0, none⟩) lo lo, .slice (some ⟨g1, 0, none⟩) hi hi, v0, v1, .slice none 0 0, .int .i64 0] 44)).drew B S i0 i1 0 0 (zeroM lo hi) ∧ Below B W ((((W.alloc (.cells (madeCells #[.int .i64 0] lo) 2)).alloc (.cells (madeCells #[.int .i64 0] hi) 2)).alloc (.cells (madeCells #[.int .i64 0] 8) 2)).alloc (.cells #[.int .i64 0, .slice none 0 0, .slice none 0 0, .int .i64 0, .int .i64 0, .int .i64 0, .slice (some ⟨gr, 0, none⟩) 8 8, .slice (some ⟨g0, 0, none⟩) lo lo, .slice (some ⟨g1, 0, none⟩) hi hi, v0, v1, .slice none 0 0, .int .i64 0] 44)).drew := by
  have hb : Below B W ((((W.alloc (.cells (madeCells #[.int .i64 0] lo) 2)).alloc (.cells (madeCells #[.int .i64 0] hi) 2)).alloc (.cells (madeCells #[.int .i64 0] 8) 2)).alloc (.cells #[.int .i64 0, .slice none 0 0, .slice none 0 0, .int .i64 0, .int .i64 0, .int .i64 0, .slice (some ⟨gr, 0, none⟩) 8 8, .slice (some ⟨g0, 0, none⟩) lo lo, .slice (some ⟨g1, 0, none⟩) hi hi, v0, v1, .slice none 0 0, .int .i64 0] 44)).drew := (((((Below.refl _ _).alloc hB _).alloc (by first | omega | (simp; omega)) _).alloc (by first | omega | (simp; omega)) _).alloc (by first | omega | (simp; omega)) _).drew
  exact ⟨rstart (World.rowIs.drew (state_at (by first | omega | (simp; omega)))) (World.rowIs.drew (World.rowIs.alloc (made_at (by first | omega | (simp; omega))) _)) (World.rowIs.drew (World.rowIs.alloc (World.rowIs.alloc (World.rowIs.alloc (made_at (by first | omega | (simp; omega))) _) _) _)) (World.rowIs.drew (World.rowIs.alloc (World.rowIs.alloc (made_at (by first | omega | (simp; omega))) _) _)) (by omega) (by omega) (by omega) (by omega) (by omega) (by omega) (by omega) (by omega) (by omega) (by omega) (q0.mono hb (Nat.le_refl _)) (q1.mono hb (Nat.le_refl _)), hb⟩
theorem start_hrl {W : World} {B S gr g0 g1 lo hi : Nat} {v0 v1 : Value} {i0 i1 : List Int} (hB : B ≤ W.heap.size) (eh : g1 = W.heap.size + 0) (er : gr = W.heap.size + 1) (el : g0 = W.heap.size + 2) (eS : S = W.heap.size + 3) (q0 : InB W B v0 i0) (q1 : InB W B v1 i1) :
    RMem ((((W.alloc (.cells (madeCells #[.int .i64 0] hi) 2)).alloc (.cells (madeCells #[.int .i64 0] 8) 2)).alloc (.cells (madeCells #[.int .i64 0] lo) 2)).alloc (.cells #[.int .i64 0, .slice none 0 0, .slice none 0 0, .int .i64 0, .int .i64 0, .int .i64 0, .slice (some ⟨gr, 0, none⟩) 8 8, .slice (some ⟨g0, 0, none⟩) lo lo, .slice (some ⟨g1, 0, none⟩) hi hi, v0, v1, .slice none 0 0, .int .i64 0] 44)).drew B S i0 i1 0 0 (zeroM lo hi) ∧ Below B W ((((W.alloc (.cells (madeCells #[.int .i64 0] hi) 2)).alloc (.cells (madeCells #[.int .i64 0] 8) 2)).alloc (.cells (madeCells #[.int .i64 0] lo) 2)).alloc (.cells #[.int .i64 0, .slice none 0 0, .slice none 0 0, .int .i64 0, .int .i64 0, .int .i64 0, .slice (some ⟨gr, 0, none⟩) 8 8, .slice (some ⟨g0, 0, none⟩) lo lo, .slice (some ⟨g1, 0, none⟩) hi hi, v0, v1, .slice none 0 0, .int .i64 0] 44)).drew := by
  have hb : Below B W ((((W.alloc (.cells (madeCells #[.int .i64 0] hi) 2)).alloc (.cells (madeCells #[.int .i64 0] 8) 2)).alloc (.cells (madeCells #[.int .i64 0] lo) 2)).alloc (.cells #[.int .i64 0, .slice none 0 0, .slice none 0 0, .int .i64 0, .int .i64 0, .int .i64 0, .slice (some ⟨gr, 0, none⟩) 8 8, .slice (some ⟨g0, 0, none⟩) lo lo, .slice (some ⟨g1, 0, none⟩) hi hi, v0, v1, .slice none 0 0, .int .i64 0] 44)).drew := (((((Below.refl _ _).alloc hB _).alloc (by first | omega | (simp; omega)) _).alloc (by first | omega | (simp; omega)) _).alloc (by first | omega | (simp; omega)) _).drew
  exact ⟨rstart (World.rowIs.drew (state_at (by first | omega | (simp; omega)))) (World.rowIs.drew (World.rowIs.alloc (World.rowIs.alloc (made_at (by first | omega | (simp; omega))) _) _)) (World.rowIs.drew (World.rowIs.alloc (made_at (by first | omega | (simp; omega))) _)) (World.rowIs.drew (World.rowIs.alloc (World.rowIs.alloc (World.rowIs.alloc (made_at (by first | omega | (simp; omega))) _) _) _)) (by omega) (by omega) (by omega) (by omega) (by omega) (by omega) (by omega) (by omega) (by omega) (by omega) (q0.mono hb (Nat.le_refl _)) (q1.mono hb (Nat.le_refl _)), hb⟩
theorem start_hlr {W : World} {B S gr g0 g1 lo hi : Nat} {v0 v1 : Value} {i0 i1 : List Int} (hB : B ≤ W.heap.size) (eh : g1 = W.heap.size + 0) (el : g0 = W.heap.size + 1) (er : gr = W.heap.size + 2) (eS : S = W.heap.size + 3) (q0 : InB W B v0 i0) (q1 : InB W B v1 i1) :
    RMem ((((W.alloc (.cells (madeCells #[.int .i64 0] hi) 2)).alloc (.cells (madeCells #[.int .i64 0] lo) 2)).alloc (.cells (madeCells #[.int .i64 0] 8) 2)).alloc (.cells #[.int .i64 0, .slice none 0 0, .slice none 0 0, .int .i64 0, .int .i64 0, .int .i64 0, .slice (some ⟨gr, 0, none⟩) 8 8, .slice (some ⟨g0, 0, none⟩) lo lo, .slice (some ⟨g1, 0, none⟩) hi hi, v0, v1, .slice none 0 0, .int .i64 0] 44)).drew B S i0 i1 0 0 (zeroM lo hi) ∧ Below B W ((((W.alloc (.cells (madeCells #[.int .i64 0] hi) 2)).alloc (.cells (madeCells #[.int .i64 0] lo) 2)).alloc (.cells (madeCells #[.int .i64 0] 8) 2)).alloc (.cells #[.int .i64 0, .slice none 0 0, .slice none 0 0, .int .i64 0, .int .i64 0, .int .i64 0, .slice (some ⟨gr, 0, none⟩) 8 8, .slice (some ⟨g0, 0, none⟩) lo lo, .slice (some ⟨g1, 0, none⟩) hi hi, v0, v1, .slice none 0 0, .int .i64 0] 44)).drew := by
  have hb : Below B W ((((W.alloc (.cells (madeCells #[.int .i64 0] hi) 2)).alloc (.cells (madeCells #[.int .i64 0] lo) 2)).alloc (.cells (madeCells #[.int .i64 0] 8) 2)).alloc (.cells #[.int .i64 0, .slice none 0 0, .slice none 0 0, .int .i64 0, .int .i64 0, .int .i64 0, .slice (some ⟨gr, 0, none⟩) 8 8, .slice (some ⟨g0, 0, none⟩) lo lo, .slice (some ⟨g1, 0, none⟩) hi hi, v0, v1, .slice none 0 0, .int .i64 0] 44)).drew := (((((Below.refl _ _).alloc hB _).alloc (by first | omega | (simp; omega)) _).alloc (by first | omega | (simp; omega)) _).alloc (by first | omega | (simp; omega)) _).drew
  exact ⟨rstart (World.rowIs.drew (state_at (by first | omega | (simp; omega)))) (World.rowIs.drew (World.rowIs.alloc (made_at (by first | omega | (simp; omega))) _)) (World.rowIs.drew (World.rowIs.alloc (World.rowIs.alloc (made_at (by first | omega | (simp; omega))) _) _)) (World.rowIs.drew (World.rowIs.alloc (World.rowIs.alloc (World.rowIs.alloc (made_at (by first | omega | (simp; omega))) _) _) _)) (by omega) (by omega) (by omega) (by omega) (by omega) (by omega) (by omega) (by omega) (by omega) (by omega) (q0.mono hb (Nat.le_refl _)) (q1.mono hb (Nat.le_refl _)), hb⟩
end mst
end Go.Proofs.Ytpcihajmcejliaa
