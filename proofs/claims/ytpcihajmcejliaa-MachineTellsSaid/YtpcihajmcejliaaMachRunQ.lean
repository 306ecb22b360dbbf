/- The walk of machine.Run, where the image may be: how its machine begins. -/
import Derived.Test.YtpcihajmcejliaaMachRunP
import Derived.Test.YtpcihajmcejliaaMachClone
import Derived.Test.YtpcihajmcejliaaMachRuns
import Derived.Test.YtpcihajmcejliaaMachGoT
import Derived.Deep.RegionHeld3
namespace Go.Proofs.Ytpcihajmcejliaa
open Go.RowKit
open mst
/-- a row of numbers in a block between a and b -/
def InR (w : World) (a b : Nat) (v : Value) (l : List Int) : Prop :=
  ∃ A c, v = .slice A l.length c ∧ ∀ k (hk : k < l.length), ∃ g, A = some ⟨g, 0, none⟩ ∧ a ≤ g ∧ g < b ∧ w.cell? ⟨g, k, none⟩ = some (.int .i64 l[k])
theorem NewIn.isSlice {w w' : World} {v : Value} {l : List Int} (h : NewIn w w' v l) : ∃ A n c, v = .slice A n c := by
  obtain ⟨A, c, hv, -⟩ := h; exact ⟨A, _, c, hv⟩
theorem NewIn.inR {w w' : World} {v : Value} {l : List Int} (h : NewIn w w' v l) : InR w' w.heap.size w'.heap.size v l := by
  obtain ⟨A, c, hv, h⟩ := h
  refine ⟨A, c, hv, fun k hk => ?_⟩
  obtain ⟨g, hA, ha, hc⟩ := h k hk
  exact ⟨g, hA, ha, World.block_lt_of_cell? _ _ hc, hc⟩
theorem InR.below {w w' : World} {a b B : Nat} {v : Value} {l : List Int} (h : InR w a b v l) (hb : Below B w w') (hB : b ≤ B) : InR w' a b v l := by
  obtain ⟨A, c, hv, h⟩ := h
  refine ⟨A, c, hv, fun k hk => ?_⟩
  obtain ⟨g, hA, ha, hg, hc⟩ := h k hk
  exact ⟨g, hA, ha, hg, (hb.cell (p := ⟨g, k, none⟩) (Nat.lt_of_lt_of_le hg hB)).trans hc⟩
theorem rowIs_below {w w' : World} {b T n B : Nat} {f : Nat → Value} (h : w.rowIs b T n f) (hb : Below B w w') (hB : b < B) : w'.rowIs b T n f := h.of_block (hb.block b hB)
theorem InR.keep {w w' : World} {a b : Nat} {v : Value} {l : List Int} {S : Nat → Prop} (h : InR w a b v l) (hc : Chg S w w') (hn : ∀ g, a ≤ g → g < b → ¬ S g) : InB w' w'.heap.size v l := by
  obtain ⟨A, c, hv, h⟩ := h
  refine ⟨A, c, hv, fun k hk => ?_⟩
  obtain ⟨g, hA, ha, hg, hcl⟩ := h k hk
  have hlt := World.block_lt_of_cell? w _ hcl
  refine ⟨g, 0, hA, Nat.lt_of_lt_of_le hlt hc.size, ?_⟩
  rw [Nat.zero_add, World.cell?_of_block (w := w) (hc.block g hlt (hn g ha hg))]
  exact hcl
theorem size6 {u : World} {g : Nat} {x0 x1 x2 x3 x4 x5 : Value} : ((((((u.setCell ⟨g, 0, none⟩ x0).setCell ⟨g, 1, none⟩ x1).setCell ⟨g, 2, none⟩ x2).setCell ⟨g, 3, none⟩ x3).setCell ⟨g, 4, none⟩ x4).setCell ⟨g, 5, none⟩ x5).heap.size = u.heap.size := by simp [World.setCell]
theorem made6 {u : World} {g T : Nat} {x0 x1 x2 x3 x4 x5 : Value} {cs : Array Value} (k : Nat) : (((((((u.setCell ⟨g, 0, none⟩ x0).setCell ⟨g, 1, none⟩ x1).setCell ⟨g, 2, none⟩ x2).setCell ⟨g, 3, none⟩ x3).setCell ⟨g, 4, none⟩ x4).setCell ⟨g, 5, none⟩ x5).alloc (.cells cs T)).cell? ⟨u.heap.size, k, none⟩ = cs[k]? := by
  have := (Blk.made ((((((u.setCell ⟨g, 0, none⟩ x0).setCell ⟨g, 1, none⟩ x1).setCell ⟨g, 2, none⟩ x2).setCell ⟨g, 3, none⟩ x3).setCell ⟨g, 4, none⟩ x4).setCell ⟨g, 5, none⟩ x5) cs T).cell k
  rwa [size6] at this
theorem chg6 {u a : World} {g : Nat} {x0 x1 x2 x3 x4 x5 : Value} {S : Nat → Prop} {o : Obj} (h : Chg S a u) (hS : S g) : Chg S a (((((((u.setCell ⟨g, 0, none⟩ x0).setCell ⟨g, 1, none⟩ x1).setCell ⟨g, 2, none⟩ x2).setCell ⟨g, 3, none⟩ x3).setCell ⟨g, 4, none⟩ x4).setCell ⟨g, 5, none⟩ x5).alloc o) :=
  ((((((h.setCell (fun _ => hS) _).setCell (fun _ => hS) _).setCell (fun _ => hS) _).setCell (fun _ => hS) _).setCell (fun _ => hS) _).setCell (fun _ => hS) _).alloc _
theorem below6 {u a : World} {g B : Nat} {x0 x1 x2 x3 x4 x5 : Value} {o : Obj} (h : Below B a u) (hg : B ≤ g) (hB : B ≤ u.heap.size) : Below B a (((((((u.setCell ⟨g, 0, none⟩ x0).setCell ⟨g, 1, none⟩ x1).setCell ⟨g, 2, none⟩ x2).setCell ⟨g, 3, none⟩ x3).setCell ⟨g, 4, none⟩ x4).setCell ⟨g, 5, none⟩ x5).alloc o) :=
  ((((((h.setCell hg _).setCell hg _).setCell hg _).setCell hg _).setCell hg _).setCell hg _).alloc (by rw [size6]; exact hB) _
theorem blk6 {u : World} {g T : Nat} {x0 x1 x2 x3 x4 x5 y0 y1 y2 y3 y4 y5 : Value} {o : Obj} (h : Blk u g #[y0, y1, y2, y3, y4, y5] T) : Blk (((((((u.setCell ⟨g, 0, none⟩ x0).setCell ⟨g, 1, none⟩ x1).setCell ⟨g, 2, none⟩ x2).setCell ⟨g, 3, none⟩ x3).setCell ⟨g, 4, none⟩ x4).setCell ⟨g, 5, none⟩ x5).alloc o) g #[x0, x1, x2, x3, x4, x5] T :=
  ((((((h.set 0 x0).set 1 x1).set 2 x2).set 3 x3).set 4 x4).set 5 x5).alloc o
theorem far6 {w : World} {g : Nat} {p : Addr} {x0 x1 x2 x3 x4 x5 v : Value} (hne : g ≠ p.block) (h : w.cell? p = some v) : ((((((w.setCell ⟨g, 0, none⟩ x0).setCell ⟨g, 1, none⟩ x1).setCell ⟨g, 2, none⟩ x2).setCell ⟨g, 3, none⟩ x3).setCell ⟨g, 4, none⟩ x4).setCell ⟨g, 5, none⟩ x5).cell? p = some v := by
  rw [World.cell?_of_block (w := w)]
  · exact h
  · repeat rw [Below.heap_setCell _ _ _ _ (Ne.symm hne)]
namespace mst
theorem Out.isSlice {w : World} {own : Nat → Nat} {t B T : Nat} {v : Value} {l : List Int} (h : Out w own t B T v l) : ∃ A n c, v = .slice A n c := by
  rcases h.1.2 with ⟨rfl, _⟩ | ⟨g, cap, cur, rfl, _⟩
  · exact ⟨_, _, _, rfl⟩
  · exact ⟨_, _, _, rfl⟩
theorem out_inR {w : World} {own : Nat → Nat} {t B T : Nat} {v : Value} {l : List Int} (h : Out w own t B T v l) : InR w B w.heap.size v l := by
  obtain ⟨h, -⟩ := h
  rcases h.2 with ⟨rfl, hn⟩ | ⟨g, cap, cur, rfl, hb, hg, -, -, -, -⟩
  · exact ⟨none, 0, by rw [hn], fun k hk => absurd hk (by omega)⟩
  · refine ⟨_, _, rfl, fun k hk => ⟨g, rfl, hb, (Array.getElem?_eq_some_iff.1 hg).1, ?_⟩⟩
    rw [h.cellAt k (by omega)]
    simp [ints, hk]
theorem words_inR {w : World} {own : Nat → Nat} {t B g : Nat} {l : List Int} (h : Words w own t B g l) : InR w B w.heap.size (.slice (some ⟨g, 0, none⟩) l.length l.length) l :=
  ⟨_, _, rfl, fun k hk => ⟨g, rfl, h.2.2, h.1.lt, by rw [h.cell hk]; simp [List.getD_eq_getElem?_getD, hk]⟩⟩
def pOwn (S g0 g1 a0 b0 a1 b1 : Nat) : Nat → Nat := fun k => if k = S then 0 else if k = S + 1 then 9 else if k = g0 then 1 else if k = g1 then 2 else if a0 ≤ k ∧ k < b0 then 5 else if a1 ≤ k ∧ k < b1 then 6 else 10
def pCells (cv v0 v1 : Value) (g0 g1 lo hi : Nat) : Nat → Value := fun j =>
  if j = 0 then .int .i64 0 else if j = 1 then .slice none 0 0 else if j = 2 then .slice none 0 0 else if j = 6 then cv
  else if j = 15 then .slice (some ⟨g0, 0, none⟩) lo lo else if j = 16 then .slice (some ⟨g1, 0, none⟩) hi hi else if j = 17 then v0 else if j = 18 then v1
  else if j = 19 then .slice none 0 0 else .int .i64 0
theorem pstate_at {w : World} {cv v0 v1 : Value} {g0 g1 lo hi : Nat} : (w.alloc (.cells #[.int .i64 0, .slice none 0 0, .slice none 0 0, .int .i64 0, .int .i64 0, .int .i64 0, cv, .int .i64 0, .int .i64 0, .int .i64 0, .int .i64 0, .int .i64 0, .int .i64 0, .int .i64 0, .int .i64 0, .slice (some ⟨g0, 0, none⟩) lo lo, .slice (some ⟨g1, 0, none⟩) hi hi, v0, v1, .slice none 0 0, .int .i64 0] 60)).rowIs w.heap.size 60 21 (pCells cv v0 v1 g0 g1 lo hi) := by
  refine World.rowIs_alloc w _ _ _ (fun i hi => ?_)
  have hi : i < 21 := hi
  have : i = 0 ∨ i = 1 ∨ i = 2 ∨ i = 3 ∨ i = 4 ∨ i = 5 ∨ i = 6 ∨ i = 7 ∨ i = 8 ∨ i = 9 ∨ i = 10 ∨ i = 11 ∨ i = 12 ∨ i = 13 ∨ i = 14 ∨ i = 15 ∨ i = 16 ∨ i = 17 ∨ i = 18 ∨ i = 19 ∨ i = 20 := by omega
  rcases this with rfl | rfl | rfl | rfl | rfl | rfl | rfl | rfl | rfl | rfl | rfl | rfl | rfl | rfl | rfl | rfl | rfl | rfl | rfl | rfl | rfl
  all_goals rfl
theorem one_cell {v : Value} (i : Nat) (h : i < #[v].size) : #[v][i]? = some ((fun _ => v) i) := by
  have : i = 0 := by simp at h; exact h
  subst this; rfl
theorem pstart {w : World} {B g0 g1 a0 b0 a1 b1 lo hi : Nat} {cv v0 v1 : Value} {i0 i1 : List Int} (h0 : w.rowIs g0 2 lo (fun _ => .int .i64 0)) (h1 : w.rowIs g1 2 hi (fun _ => .int .i64 0))
    (q0 : InR w a0 b0 v0 i0) (q1 : InR w a1 b1 v1 i1) (k0 : B ≤ g0) (k1 : B ≤ g1) (kB : B ≤ w.heap.size) (l0 : b0 ≤ w.heap.size) (l1 : b1 ≤ w.heap.size) (n : g0 ≠ g1) (m0 : g0 < a0 ∨ b0 ≤ g0) (m1 : g0 < a1 ∨ b1 ≤ g0) (m2 : g1 < a0 ∨ b0 ≤ g1) (m3 : g1 < a1 ∨ b1 ≤ g1) (m4 : b0 ≤ a1) :
    PMem ((w.alloc (.cells #[.int .i64 0, .slice none 0 0, .slice none 0 0, .int .i64 0, .int .i64 0, .int .i64 0, cv, .int .i64 0, .int .i64 0, .int .i64 0, .int .i64 0, .int .i64 0, .int .i64 0, .int .i64 0, .int .i64 0, .slice (some ⟨g0, 0, none⟩) lo lo, .slice (some ⟨g1, 0, none⟩) hi hi, v0, v1, .slice none 0 0, .int .i64 0] 60)).alloc (.cells #[.pointer (some ⟨w.heap.size, 0, none⟩)] 55)) B w.heap.size cv i0 i1 0 0 (zeroM lo hi) := by
  have hlt0 := h0.lt
  have hlt1 := h1.lt
  have hb : Below w.heap.size w ((w.alloc (.cells #[.int .i64 0, .slice none 0 0, .slice none 0 0, .int .i64 0, .int .i64 0, .int .i64 0, cv, .int .i64 0, .int .i64 0, .int .i64 0, .int .i64 0, .int .i64 0, .int .i64 0, .int .i64 0, .int .i64 0, .slice (some ⟨g0, 0, none⟩) lo lo, .slice (some ⟨g1, 0, none⟩) hi hi, v0, v1, .slice none 0 0, .int .i64 0] 60)).alloc (.cells #[.pointer (some ⟨w.heap.size, 0, none⟩)] 55)) := ((Below.refl _ _).alloc (Nat.le_refl _) _).alloc (by simp) _
  have hin : ∀ {v l a b t}, InR w a b v l → b ≤ w.heap.size → (∀ g, a ≤ g → g < b → pOwn w.heap.size g0 g1 a0 b0 a1 b1 g = t) → In ((w.alloc (.cells #[.int .i64 0, .slice none 0 0, .slice none 0 0, .int .i64 0, .int .i64 0, .int .i64 0, cv, .int .i64 0, .int .i64 0, .int .i64 0, .int .i64 0, .int .i64 0, .int .i64 0, .int .i64 0, .int .i64 0, .slice (some ⟨g0, 0, none⟩) lo lo, .slice (some ⟨g1, 0, none⟩) hi hi, v0, v1, .slice none 0 0, .int .i64 0] 60)).alloc (.cells #[.pointer (some ⟨w.heap.size, 0, none⟩)] 55)) (pOwn w.heap.size g0 g1 a0 b0 a1 b1) t v l := by
    rintro v l a b t ⟨A, c, hv, h⟩ hbs ht
    refine ⟨A, c, hv, fun k hk => ?_⟩
    obtain ⟨g, hA, ha, hg, hc⟩ := h k hk
    exact ⟨g, hA, ht g ha hg, (hb.cell (p := ⟨g, k, none⟩) (Nat.lt_of_lt_of_le hg hbs)).trans hc⟩
  have hrep : ∀ n j, (List.replicate n (0 : Int)).getD j 0 = 0 := by
    intro n j
    rw [List.getD_eq_getElem?_getD]
    by_cases hj : j < n
    · simp [hj]
    · simp [Nat.le_of_not_lt hj]
  refine ⟨pOwn w.heap.size g0 g1 a0 b0 a1 b1, pCells cv v0 v1 g0 g1 lo hi, .slice none 0 0, .slice none 0 0, v0, v1, .slice none 0 0, g0, g1,
    { blk := World.rowIs.alloc pstate_at _, oS := ?_, hS := kB, fs := ?_, lo := ⟨?_, ?_, k0⟩, hi := ⟨?_, ?_, k1⟩, ol := ⟨World.ownsRow_nil _ _ _ _, ?_⟩, oh := ⟨World.ownsRow_nil _ _ _ _, ?_⟩, in0 := hin q0 l0 ?_, in1 := hin q1 l1 ?_, cl := ⟨World.ownsRow_nil _ _ _ _, ?_⟩, bx := ⟨?_, ?_⟩ }⟩
  · unfold pOwn; rw [if_pos rfl]
  · exact ⟨rfl, rfl, rfl, rfl, rfl, rfl, by simp [pCells, zeroM], by simp [pCells, zeroM], rfl, rfl, rfl, rfl, rfl, fun j hj => by
      unfold pCells zeroM
      rw [if_neg (by omega), if_neg (by omega), if_neg (by omega), if_neg (by omega), if_neg (by omega), if_neg (by omega), if_neg (by omega), if_neg (by omega), if_neg (by omega)]⟩
  · simp only [zeroM, hrep, List.length_replicate]; exact rowIs_below h0 hb hlt0
  · unfold pOwn; rw [if_neg (by omega), if_neg (by omega), if_pos rfl]
  · simp only [zeroM, hrep, List.length_replicate]; exact rowIs_below h1 hb hlt1
  · unfold pOwn; rw [if_neg (by omega), if_neg (by omega), if_neg (by omega), if_pos rfl]
  · intro g e; cases e
  · intro g e; cases e
  · intro g ha hg
    unfold pOwn; rw [if_neg (by omega), if_neg (by omega), if_neg (by omega), if_neg (by omega), if_pos ⟨ha, hg⟩]
  · intro g ha hg
    unfold pOwn; rw [if_neg (by omega), if_neg (by omega), if_neg (by omega), if_neg (by omega), if_neg (by omega), if_pos ⟨ha, hg⟩]
  · intro g e; cases e
  · have := World.rowIs_alloc (w.alloc (.cells #[.int .i64 0, .slice none 0 0, .slice none 0 0, .int .i64 0, .int .i64 0, .int .i64 0, cv, .int .i64 0, .int .i64 0, .int .i64 0, .int .i64 0, .int .i64 0, .int .i64 0, .int .i64 0, .int .i64 0, .slice (some ⟨g0, 0, none⟩) lo lo, .slice (some ⟨g1, 0, none⟩) hi hi, v0, v1, .slice none 0 0, .int .i64 0] 60)) #[.pointer (some ⟨w.heap.size, 0, none⟩)] 55 (fun _ => .pointer (some ⟨w.heap.size, 0, none⟩)) one_cell
    simpa using this
  · unfold pOwn; rw [if_neg (by omega), if_pos rfl]
set_option maxRecDepth 100000 in
set_option maxHeartbeats 8000000 in
theorem run_ok (b off cap : Nat) (code : List Ins) (lo hi : Nat) (v0 v1 : Value) (i0 i1 : List Int) (fuel : Nat) (w : World) (hv : Orders w b off code) (hb : b < w.heap.size) (hmay : mayB code lo hi = true) (hok : ∀ i ∈ code, okI i.n) (hf : fuel ≤ 5000) (q0 : InB w w.heap.size v0 i0) (q1 : InB w w.heap.size v1 i1) (k0 : ∀ x ∈ i0, okI x) (k1 : ∀ x ∈ i1, okI x) (hl0 : i0.length ≤ 1000) (hl1 : i1.length ≤ 1000) (hbig : code.length ≤ 9223372036854775807) :
    Calls Try.prog 14 #[.agg #[.slice (some ⟨b, off, none⟩) code.length cap, .int .i64 lo, .int .i64 hi], v0, v1, .int .i64 fuel] w fun e w' => ∃ g vl vh va vb, e = .returned (.tuple #[.agg #[.int .i64 (runF code i0 i1 fuel (zeroM lo hi)).1, vl, vh, .int .i64 (runF code i0 i1 fuel (zeroM lo hi)).2.2.u0, .int .i64 (runF code i0 i1 fuel (zeroM lo hi)).2.2.u1, .int .i64 (runF code i0 i1 fuel (zeroM lo hi)).2.1], .slice (some ⟨g, 0, none⟩) 2 2, .int .i64 0]) ∧
      w'.cell? ⟨g, 0, none⟩ = some va ∧ w'.cell? ⟨g, 1, none⟩ = some vb ∧ InB w' w'.heap.size vl (runF code i0 i1 fuel (zeroM lo hi)).2.2.o0 ∧ InB w' w'.heap.size vh (runF code i0 i1 fuel (zeroM lo hi)).2.2.o1 ∧ InB w' w'.heap.size va (runF code i0 i1 fuel (zeroM lo hi)).2.2.lo ∧ InB w' w'.heap.size vb (runF code i0 i1 fuel (zeroM lo hi)).2.2.hi ∧ Below w.heap.size w w' := by
  have HM := Lib.hid (fun w' (hb2 : Below w.heap.size w w') => may_any (.slice (some ⟨b, off, none⟩) code.length cap) code lo hi w' (.inr ⟨b, off, cap, rfl, Nat.lt_of_lt_of_le hb hb2.size, hbig, hv.below hb2 hb⟩))
  rw [hmay] at HM
  simp only [mayB, Bool.and_eq_true, decide_eq_true_eq] at hmay
  obtain ⟨⟨⟨⟨⟨⟨hc1, hc2⟩, -⟩, hlo⟩, -⟩, hhi⟩, hall⟩ := hmay
  have hlo : lo ≤ 20000 := by omega
  have hhi : hi ≤ 20000 := by omega
  rw [List.all_eq_true] at hall
  have HC := Lib.hid (show ∀ i ∈ code, orderB i code.length = true ∧ okI i.n from fun i h => ⟨hall i h, hok i h⟩)
  have HI := Lib.hid (And.intro k0 k1)
  have HI0 := Lib.hid hl0
  have HI1 := Lib.hid hl1
  have HQ0 := Lib.hid q0
  have HQ1 := Lib.hid q1
  have HRUN := Lib.hid (fun wc (hb3 : Below w.heap.size w wc) S (hS1 : S + 1 = wc.heap.size) (hBS : w.heap.size + 2 ≤ S) (hM : PMem (wc.alloc (.cells #[.pointer (some ⟨S, 0, none⟩)] 55)) (w.heap.size + 2) S (.slice (some ⟨b, off, none⟩) code.length cap) i0 i1 0 0 (zeroM lo hi)) => runs_any fuel wc (hv.below hb3 hb) (by omega : b < w.heap.size + 2) (by omega) HC hf k0 k1 (by omega) (by omega) hS1 hBS (good_start _ _ _) hM)
  obtain ⟨A0, d0, hz0⟩ := q0.len
  obtain ⟨A1, d1, hz1⟩ := q1.len
  have hn0 : ¬ (1000 : Int) < (i0.length : Int) := by omega
  have hn1 : ¬ (1000 : Int) < (i1.length : Int) := by omega
  generalize hR : runF code i0 i1 fuel (zeroM lo hi) = R
  rw [hR] at HRUN
  have HR := Lib.hid hR
  clear hall hok q0 q1 k0 k1 hl0 hl1 hv hR
  obtain ⟨n, hn⟩ : ∃ n, code.length = n := ⟨_, rfl⟩
  obtain ⟨m0, hm0⟩ : ∃ n, i0.length = n := ⟨_, rfl⟩
  obtain ⟨m1, hm1⟩ : ∃ n, i1.length = n := ⟨_, rfl⟩
  rw [hn] at hc1 hc2 HM HRUN ⊢
  rw [hm0] at hz0 hn0
  rw [hm1] at hz1 hn1
  have HN := Lib.hid hn
  clear hn hm0 hm1
  subst hz0
  subst hz1
  have hb0 : Below w.heap.size w ((w.alloc (.cells #[(.slice (some ⟨b, off, none⟩) n cap), .int .i64 lo, .int .i64 hi] 30)).alloc (.cells #[.int .i64 0, .slice none 0 0, .slice none 0 0, .int .i64 0, .int .i64 0, .int .i64 0] 34)) := ((Below.refl _ _).alloc (Nat.le_refl _) _).alloc (by simp) _
  have HB0 := Lib.hid hb0
  have hf2 : ¬ (fuel : Int) < 0 := by omega
  have hf3 : ¬ (90000 : Int) < (fuel : Int) := by omega
  have hmkl := run_make_row' (P := Try.prog) 31 2 (.int .i64 0) 8 Try.underlying31 info2 rfl .i64 .i64 lo (by omega) (by omega)
  have hmkh := run_make_row' (P := Try.prog) 31 2 (.int .i64 0) 8 Try.underlying31 info2 rfl .i64 .i64 hi (by omega) (by omega)
  clear hb0
  go_enter Try.func14, Try.ntmps14
  go_upto_region 7 with (go_at_call 12; refine (HM.out _ HB0.out).mono ?_; rintro e w1 ⟨rfl, hb1⟩; obtain ⟨hc0, hc1, hc2, hK, hsz, hB⟩ := run_head hb1; clear hb1)
  go_cut [11] (fun p w' => ∃ S, p = .pointer (some ⟨S, 0, none⟩) ∧ S + 1 = w'.heap.size ∧ w.heap.size + 2 ≤ S ∧ PMem (w'.alloc (.cells #[.pointer (some ⟨S, 0, none⟩)] 55)) (w.heap.size + 2) S (.slice (some ⟨b, off, none⟩) n cap) i0 i1 0 0 (zeroM lo hi) ∧ Below w.heap.size w w' ∧ Blk w' (w.heap.size + 1) #[.int .i64 0, .slice none 0 0, .slice none 0 0, .int .i64 0, .int .i64 0, .int .i64 0] 34)
  case first =>
    refine wp_region_held_drew (S := fun w' => w'.cell? ⟨w.heap.size, 0, none⟩ = some (.slice (some ⟨b, off, none⟩) n cap) ∧ w'.cell? ⟨w.heap.size, 1, none⟩ = some (.int .i64 lo) ∧ w'.cell? ⟨w.heap.size, 2, none⟩ = some (.int .i64 hi)) mw.mixed ⟨hc0, hc1, hc2⟩ (fun hH => ?_)
    have hB0 : Below w.heap.size w w1.drew := hB.drew
    have hs0 : w.heap.size + 2 ≤ w1.drew.heap.size := hsz
    obtain ⟨u0, hu0⟩ : ∃ u, w1.drew = u := ⟨_, rfl⟩
    have hKu0 : Blk w1.drew (w.heap.size + 1) #[.int .i64 0, .slice none 0 0, .slice none 0 0, .int .i64 0, .int .i64 0, .int .i64 0] 34 := hK
    rw [hu0] at hB0 hs0 hH hKu0 ⊢
    have hw0 : w1.heap.size = u0.heap.size := by rw [← hu0]; rfl
    clear hu0
    refine wpAnyH_take (i := 0) (v := ?va0) rfl (by kernel_rfl) (by kernel_rfl) (by kernel_rfl) (fun _ _ _ h => h) (Or.inl ⟨by rfl, ?ha0⟩) (by assumption) ?ra0
    case ha0 => intro w hSw; (try dsimp only at hSw); go_simp; (try with_reducible rfl)
    simp only [Act.put, List.getElem_toArray, List.getElem_cons_zero, List.setIfInBounds_toArray, List.set_cons_zero, List.set_cons_succ]
    refine wpAnyH_take (i := 1) (v := ?va1) rfl (by kernel_rfl) (by kernel_rfl) (by kernel_rfl) (fun _ _ _ h => h) (Or.inl ⟨by rfl, ?ha1⟩) (by assumption) ?ra1
    case ha1 => intro w hSw; (try dsimp only at hSw); go_simp; (try with_reducible rfl)
    simp only [Act.put, List.getElem_toArray, List.getElem_cons_zero, List.getElem_cons_succ, List.setIfInBounds_toArray, List.set_cons_zero, List.set_cons_succ]
    refine wpAnyH_take (i := 2) (v := ?va2) rfl (by kernel_rfl) (by kernel_rfl) (by kernel_rfl) (fun _ _ _ h => h) (Or.inl ⟨by rfl, ?ha2⟩) (by assumption) ?ra2
    case ha2 => intro w hSw; (try dsimp only at hSw); go_simp; (try with_reducible rfl)
    simp only [Act.put, List.getElem_toArray, List.getElem_cons_zero, List.getElem_cons_succ, List.setIfInBounds_toArray, List.set_cons_zero, List.set_cons_succ]
    refine wpAnyH_take (i := 3) (v := ?va3) rfl (by kernel_rfl) (by kernel_rfl) (by kernel_rfl) (fun _ _ _ h => h) (Or.inl ⟨by rfl, ?ha3⟩) (by assumption) ?ra3
    case ha3 => intro w hSw; (try dsimp only at hSw); go_simp; (try with_reducible rfl)
    simp only [Act.put, List.getElem_toArray, List.getElem_cons_zero, List.getElem_cons_succ, List.setIfInBounds_toArray, List.set_cons_zero, List.set_cons_succ]
    refine wpAnyH_take (i := 5) (v := ?va5) rfl (by kernel_rfl) (by kernel_rfl) (by kernel_rfl) (fun _ _ _ h => h) (Or.inl ⟨by rfl, ?ha5⟩) (by assumption) ?ra5
    case ha5 => intro w hSw; (try dsimp only at hSw); go_simp; (try with_reducible rfl)
    simp only [Act.put, List.getElem_toArray, List.getElem_cons_zero, List.getElem_cons_succ, List.setIfInBounds_toArray, List.set_cons_zero, List.set_cons_succ]
    refine wpAnyH_take (i := 6) (v := ?va6) rfl (by kernel_rfl) (by kernel_rfl) (by kernel_rfl) (fun _ _ _ h => h) (Or.inl ⟨by rfl, ?ha6⟩) (by assumption) ?ra6
    case ha6 => intro w hSw; (try dsimp only at hSw); go_simp; (try with_reducible rfl)
    simp only [Act.put, List.getElem_toArray, List.getElem_cons_zero, List.getElem_cons_succ, List.setIfInBounds_toArray, List.set_cons_zero, List.set_cons_succ]
    refine wpAnyH_take (i := 9) (v := ?va9) rfl (by kernel_rfl) (by kernel_rfl) (by kernel_rfl) (fun _ _ _ h => h) (Or.inl ⟨by rfl, ?ha9⟩) (by assumption) ?ra9
    case ha9 => intro w hSw; (try dsimp only at hSw); go_simp; (try with_reducible rfl)
    simp only [Act.put, List.getElem_toArray, List.getElem_cons_zero, List.getElem_cons_succ, List.setIfInBounds_toArray, List.set_cons_zero, List.set_cons_succ]
    refine wpAnyH_take (i := 11) (v := ?va11) rfl (by kernel_rfl) (by kernel_rfl) (by kernel_rfl) (fun _ _ _ h => h) (Or.inl ⟨by rfl, ?ha11⟩) (by assumption) ?ra11
    case ha11 => intro w hSw; (try dsimp only at hSw); go_simp; (try with_reducible rfl)
    simp only [Act.put, List.getElem_toArray, List.getElem_cons_zero, List.getElem_cons_succ, List.setIfInBounds_toArray, List.set_cons_zero, List.set_cons_succ]
    refine wpAnyH_ready (rs := [4, 7, 10]) (by kernel_rfl) (by simp) ?_
    refine AllReadyH.cons rfl (fun K2 hK2 => ?_) (AllReadyH.cons rfl (fun K2 hK2 => ?_) (AllReadyH.cons rfl (fun K2 hK2 => ?_) AllReadyH.nil))
    · go_simp
      have hrl : (u0.alloc (.cells (madeCells #[.int .i64 0] lo) 2)).rowIs u0.heap.size 2 lo (fun _ => .int .i64 0) := made_at rfl
      have hb1 : Below u0.heap.size u0 (u0.alloc (.cells (madeCells #[.int .i64 0] lo) 2)) := (Below.refl _ _).alloc (Nat.le_refl _) _
      have hs1 : u0.heap.size < (u0.alloc (.cells (madeCells #[.int .i64 0] lo) 2)).heap.size := by simp
      refine hK2.out _ _ ⟨cell_al hH.1, cell_al hH.2.1, cell_al hH.2.2⟩ (fun hHx => ?_)
      clear hK2 K2 hH
      have hH := hHx
      clear hHx
      try simp only [Act.put, List.getElem_toArray, List.getElem_cons_zero, List.getElem_cons_succ, List.setIfInBounds_toArray, List.set_cons_zero, List.set_cons_succ]
      obtain ⟨u1, hu1⟩ : ∃ u, u0.alloc (.cells (madeCells #[.int .i64 0] lo) 2) = u := ⟨_, rfl⟩
      rw [hu1] at hrl hb1 hs1 hH ⊢
      clear hu1
      have hB1 := hB0.trans (hb1.mono (by omega))
      have hKu1 : Blk u1 (w.heap.size + 1) #[.int .i64 0, .slice none 0 0, .slice none 0 0, .int .i64 0, .int .i64 0, .int .i64 0] 34 := (hb1.block (w.heap.size + 1) (by omega)).trans hKu0
      refine wpAnyH_ready (rs := [7, 10]) (by kernel_rfl) (by simp) ?_
      refine AllReadyH.cons rfl (fun K2 hK2 => ?_) (AllReadyH.cons rfl (fun K2 hK2 => ?_) AllReadyH.nil)
      · go_simp
        have hrh : (u1.alloc (.cells (madeCells #[.int .i64 0] hi) 2)).rowIs u1.heap.size 2 hi (fun _ => .int .i64 0) := made_at rfl
        have hb2 : Below u1.heap.size u1 (u1.alloc (.cells (madeCells #[.int .i64 0] hi) 2)) := (Below.refl _ _).alloc (Nat.le_refl _) _
        have hs2 : u1.heap.size < (u1.alloc (.cells (madeCells #[.int .i64 0] hi) 2)).heap.size := by simp
        refine hK2.out _ _ ⟨cell_al hH.1, cell_al hH.2.1, cell_al hH.2.2⟩ (fun hHx => ?_)
        clear hK2 K2 hH
        have hH := hHx
        clear hHx
        try simp only [Act.put, List.getElem_toArray, List.getElem_cons_zero, List.getElem_cons_succ, List.setIfInBounds_toArray, List.set_cons_zero, List.set_cons_succ]
        obtain ⟨u2, hu2⟩ : ∃ u, u1.alloc (.cells (madeCells #[.int .i64 0] hi) 2) = u := ⟨_, rfl⟩
        rw [hu2] at hrh hb2 hs2 hH ⊢
        clear hu2
        have hB2 := hB1.trans (hb2.mono (by omega))
        have hKu2 : Blk u2 (w.heap.size + 1) #[.int .i64 0, .slice none 0 0, .slice none 0 0, .int .i64 0, .int .i64 0, .int .i64 0] 34 := (hb2.block (w.heap.size + 1) (by omega)).trans hKu1
        refine wpAnyH_take (i := 8) (v := ?vn38) rfl (by kernel_rfl) (by kernel_rfl) (by kernel_rfl) (fun _ _ _ h => h) (Or.inl ⟨by rfl, ?hn38⟩) (by assumption) ?rn38
        case hn38 => intro w hSw; (try dsimp only at hSw); go_simp; (try with_reducible rfl)
        simp only [Act.put, List.getElem_toArray, List.getElem_cons_zero, List.getElem_cons_succ, List.setIfInBounds_toArray, List.set_cons_zero, List.set_cons_succ]
        refine wpAnyH_ready (rs := [10]) (by kernel_rfl) (by simp) ?_
        refine AllReadyH.cons rfl (fun K2 hK2 => ?_) AllReadyH.nil
        · go_simp
          refine (clone_any _ i0 _ w.heap.size (HQ0.out.mono hB2 (Nat.le_refl _)) HI0.out).mono ?_
          rintro e u3 ⟨z0, rfl, hN0, hb3⟩
          obtain ⟨Az0, nz0, cz0, rfl⟩ := hN0.isSlice
          have hs3 := hb3.size
          refine hK2.out _ _ ⟨(hb3.cell (p := ⟨w.heap.size, 0, none⟩) (by show w.heap.size < _; omega)).trans hH.1, (hb3.cell (p := ⟨w.heap.size, 1, none⟩) (by show w.heap.size < _; omega)).trans hH.2.1, (hb3.cell (p := ⟨w.heap.size, 2, none⟩) (by show w.heap.size < _; omega)).trans hH.2.2⟩ (fun hHx => ?_)
          clear hK2 K2 hH
          have hH := hHx
          clear hHx
          try simp only [Act.put, List.getElem_toArray, List.getElem_cons_zero, List.getElem_cons_succ, List.setIfInBounds_toArray, List.set_cons_zero, List.set_cons_succ]
          have hB3 := hB2.trans (hb3.mono (by omega))
          have hKu3 : Blk u3 (w.heap.size + 1) #[.int .i64 0, .slice none 0 0, .slice none 0 0, .int .i64 0, .int .i64 0, .int .i64 0] 34 := (hb3.block (w.heap.size + 1) (by omega)).trans hKu2
          refine wpAnyH_ready (rs := [12]) (by kernel_rfl) (by simp) ?_
          refine AllReadyH.cons rfl (fun K2 hK2 => ?_) AllReadyH.nil
          · go_simp
            refine (clone_any _ i1 _ w.heap.size (HQ1.out.mono hB3 (Nat.le_refl _)) HI1.out).mono ?_
            rintro e u4 ⟨z1, rfl, hN1, hb4⟩
            obtain ⟨Az1, nz1, cz1, rfl⟩ := hN1.isSlice
            have hs4 := hb4.size
            refine hK2.out _ _ ⟨(hb4.cell (p := ⟨w.heap.size, 0, none⟩) (by show w.heap.size < _; omega)).trans hH.1, (hb4.cell (p := ⟨w.heap.size, 1, none⟩) (by show w.heap.size < _; omega)).trans hH.2.1, (hb4.cell (p := ⟨w.heap.size, 2, none⟩) (by show w.heap.size < _; omega)).trans hH.2.2⟩ (fun hHx => ?_)
            clear hK2 K2 hH
            have hH := hHx
            clear hHx
            try simp only [Act.put, List.getElem_toArray, List.getElem_cons_zero, List.getElem_cons_succ, List.setIfInBounds_toArray, List.set_cons_zero, List.set_cons_succ]
            have hB4 := hB3.trans (hb4.mono (by omega))
            have hKu4 : Blk u4 (w.heap.size + 1) #[.int .i64 0, .slice none 0 0, .slice none 0 0, .int .i64 0, .int .i64 0, .int .i64 0] 34 := (hb4.block (w.heap.size + 1) (by omega)).trans hKu3
            refine wpAnyH_take (i := 13) (v := ?vn513) rfl (by kernel_rfl) (by kernel_rfl) (by kernel_rfl) (fun _ _ _ h => h) (Or.inl ⟨by rfl, ?hn513⟩) (by assumption) ?rn513
            case hn513 => intro w hSw; (try dsimp only at hSw); go_simp; (try with_reducible rfl)
            simp only [Act.put, List.getElem_toArray, List.getElem_cons_zero, List.getElem_cons_succ, List.setIfInBounds_toArray, List.set_cons_zero, List.set_cons_succ]
            refine wpAnyH_take (i := 14) (v := ?vn514) rfl (by kernel_rfl) (by kernel_rfl) (by kernel_rfl) (fun _ _ _ h => h) (Or.inl ⟨by rfl, ?hn514⟩) (by assumption) ?rn514
            case hn514 => intro w hSw; (try dsimp only at hSw); go_simp; (try with_reducible rfl)
            simp only [Act.put, List.getElem_toArray, List.getElem_cons_zero, List.getElem_cons_succ, List.setIfInBounds_toArray, List.set_cons_zero, List.set_cons_succ]
            refine wpAnyH_ready (rs := [15]) (by kernel_rfl) (by simp) ?_
            refine AllReadyH.cons rfl (fun K2 hK2 => ?_) AllReadyH.nil
            go_simp
            refine hK2.out _ _ ⟨cell_al hH.1, cell_al hH.2.1, cell_al hH.2.2⟩ (fun hHx => ?_)
            clear hK2 K2
            try simp only [Act.put, List.getElem_toArray, List.getElem_cons_zero, List.getElem_cons_succ, List.setIfInBounds_toArray, List.set_cons_zero, List.set_cons_succ]
            refine wpAnyH_take (i := 16) (v := ?vn516) rfl (by kernel_rfl) (by kernel_rfl) (by kernel_rfl) (fun _ _ _ h => h) (Or.inl ⟨by rfl, ?hn516⟩) (by assumption) ?rn516
            case hn516 => intro w hSw; (try dsimp only at hSw); go_simp; (try with_reducible rfl)
            simp only [Act.put, List.getElem_toArray, List.getElem_cons_zero, List.getElem_cons_succ, List.setIfInBounds_toArray, List.set_cons_zero, List.set_cons_succ]
            refine wpAnyH_done (by kernel_rfl) ?_ _
            clear hHx
            go_wp2_with fail
            go_meet
            refine ⟨u4.heap.size, rfl, by simp, by omega, pstart (rowIs_below (rowIs_below (rowIs_below hrl hb2 (by omega)) hb3 (by omega)) hb4 (by omega)) (rowIs_below (rowIs_below hrh hb3 (by omega)) hb4 (by omega)) (hN0.inR.below hb4 (by omega)) hN1.inR (by omega) (by omega) (by omega) (by omega) (by omega) (by omega) (by omega) (by omega) (by omega) (by omega) (by omega), hB4.alloc (by omega) _, hKu4.alloc _⟩
      · go_simp
        refine (clone_any _ i0 _ w.heap.size (HQ0.out.mono hB1 (Nat.le_refl _)) HI0.out).mono ?_
        rintro e u2 ⟨z0, rfl, hN0, hb2⟩
        obtain ⟨Az0, nz0, cz0, rfl⟩ := hN0.isSlice
        have hs2 := hb2.size
        refine hK2.out _ _ ⟨(hb2.cell (p := ⟨w.heap.size, 0, none⟩) (by show w.heap.size < _; omega)).trans hH.1, (hb2.cell (p := ⟨w.heap.size, 1, none⟩) (by show w.heap.size < _; omega)).trans hH.2.1, (hb2.cell (p := ⟨w.heap.size, 2, none⟩) (by show w.heap.size < _; omega)).trans hH.2.2⟩ (fun hHx => ?_)
        clear hK2 K2 hH
        have hH := hHx
        clear hHx
        try simp only [Act.put, List.getElem_toArray, List.getElem_cons_zero, List.getElem_cons_succ, List.setIfInBounds_toArray, List.set_cons_zero, List.set_cons_succ]
        have hB2 := hB1.trans (hb2.mono (by omega))
        have hKu2 : Blk u2 (w.heap.size + 1) #[.int .i64 0, .slice none 0 0, .slice none 0 0, .int .i64 0, .int .i64 0, .int .i64 0] 34 := (hb2.block (w.heap.size + 1) (by omega)).trans hKu1
        refine wpAnyH_ready (rs := [7, 12]) (by kernel_rfl) (by simp) ?_
        refine AllReadyH.cons rfl (fun K2 hK2 => ?_) (AllReadyH.cons rfl (fun K2 hK2 => ?_) AllReadyH.nil)
        · go_simp
          have hrh : (u2.alloc (.cells (madeCells #[.int .i64 0] hi) 2)).rowIs u2.heap.size 2 hi (fun _ => .int .i64 0) := made_at rfl
          have hb3 : Below u2.heap.size u2 (u2.alloc (.cells (madeCells #[.int .i64 0] hi) 2)) := (Below.refl _ _).alloc (Nat.le_refl _) _
          have hs3 : u2.heap.size < (u2.alloc (.cells (madeCells #[.int .i64 0] hi) 2)).heap.size := by simp
          refine hK2.out _ _ ⟨cell_al hH.1, cell_al hH.2.1, cell_al hH.2.2⟩ (fun hHx => ?_)
          clear hK2 K2 hH
          have hH := hHx
          clear hHx
          try simp only [Act.put, List.getElem_toArray, List.getElem_cons_zero, List.getElem_cons_succ, List.setIfInBounds_toArray, List.set_cons_zero, List.set_cons_succ]
          obtain ⟨u3, hu3⟩ : ∃ u, u2.alloc (.cells (madeCells #[.int .i64 0] hi) 2) = u := ⟨_, rfl⟩
          rw [hu3] at hrh hb3 hs3 hH ⊢
          clear hu3
          have hB3 := hB2.trans (hb3.mono (by omega))
          have hKu3 : Blk u3 (w.heap.size + 1) #[.int .i64 0, .slice none 0 0, .slice none 0 0, .int .i64 0, .int .i64 0, .int .i64 0] 34 := (hb3.block (w.heap.size + 1) (by omega)).trans hKu2
          refine wpAnyH_take (i := 8) (v := ?vn78) rfl (by kernel_rfl) (by kernel_rfl) (by kernel_rfl) (fun _ _ _ h => h) (Or.inl ⟨by rfl, ?hn78⟩) (by assumption) ?rn78
          case hn78 => intro w hSw; (try dsimp only at hSw); go_simp; (try with_reducible rfl)
          simp only [Act.put, List.getElem_toArray, List.getElem_cons_zero, List.getElem_cons_succ, List.setIfInBounds_toArray, List.set_cons_zero, List.set_cons_succ]
          refine wpAnyH_ready (rs := [12]) (by kernel_rfl) (by simp) ?_
          refine AllReadyH.cons rfl (fun K2 hK2 => ?_) AllReadyH.nil
          · go_simp
            refine (clone_any _ i1 _ w.heap.size (HQ1.out.mono hB3 (Nat.le_refl _)) HI1.out).mono ?_
            rintro e u4 ⟨z1, rfl, hN1, hb4⟩
            obtain ⟨Az1, nz1, cz1, rfl⟩ := hN1.isSlice
            have hs4 := hb4.size
            refine hK2.out _ _ ⟨(hb4.cell (p := ⟨w.heap.size, 0, none⟩) (by show w.heap.size < _; omega)).trans hH.1, (hb4.cell (p := ⟨w.heap.size, 1, none⟩) (by show w.heap.size < _; omega)).trans hH.2.1, (hb4.cell (p := ⟨w.heap.size, 2, none⟩) (by show w.heap.size < _; omega)).trans hH.2.2⟩ (fun hHx => ?_)
            clear hK2 K2 hH
            have hH := hHx
            clear hHx
            try simp only [Act.put, List.getElem_toArray, List.getElem_cons_zero, List.getElem_cons_succ, List.setIfInBounds_toArray, List.set_cons_zero, List.set_cons_succ]
            have hB4 := hB3.trans (hb4.mono (by omega))
            have hKu4 : Blk u4 (w.heap.size + 1) #[.int .i64 0, .slice none 0 0, .slice none 0 0, .int .i64 0, .int .i64 0, .int .i64 0] 34 := (hb4.block (w.heap.size + 1) (by omega)).trans hKu3
            refine wpAnyH_take (i := 13) (v := ?vn813) rfl (by kernel_rfl) (by kernel_rfl) (by kernel_rfl) (fun _ _ _ h => h) (Or.inl ⟨by rfl, ?hn813⟩) (by assumption) ?rn813
            case hn813 => intro w hSw; (try dsimp only at hSw); go_simp; (try with_reducible rfl)
            simp only [Act.put, List.getElem_toArray, List.getElem_cons_zero, List.getElem_cons_succ, List.setIfInBounds_toArray, List.set_cons_zero, List.set_cons_succ]
            refine wpAnyH_take (i := 14) (v := ?vn814) rfl (by kernel_rfl) (by kernel_rfl) (by kernel_rfl) (fun _ _ _ h => h) (Or.inl ⟨by rfl, ?hn814⟩) (by assumption) ?rn814
            case hn814 => intro w hSw; (try dsimp only at hSw); go_simp; (try with_reducible rfl)
            simp only [Act.put, List.getElem_toArray, List.getElem_cons_zero, List.getElem_cons_succ, List.setIfInBounds_toArray, List.set_cons_zero, List.set_cons_succ]
            refine wpAnyH_ready (rs := [15]) (by kernel_rfl) (by simp) ?_
            refine AllReadyH.cons rfl (fun K2 hK2 => ?_) AllReadyH.nil
            go_simp
            refine hK2.out _ _ ⟨cell_al hH.1, cell_al hH.2.1, cell_al hH.2.2⟩ (fun hHx => ?_)
            clear hK2 K2
            try simp only [Act.put, List.getElem_toArray, List.getElem_cons_zero, List.getElem_cons_succ, List.setIfInBounds_toArray, List.set_cons_zero, List.set_cons_succ]
            refine wpAnyH_take (i := 16) (v := ?vn816) rfl (by kernel_rfl) (by kernel_rfl) (by kernel_rfl) (fun _ _ _ h => h) (Or.inl ⟨by rfl, ?hn816⟩) (by assumption) ?rn816
            case hn816 => intro w hSw; (try dsimp only at hSw); go_simp; (try with_reducible rfl)
            simp only [Act.put, List.getElem_toArray, List.getElem_cons_zero, List.getElem_cons_succ, List.setIfInBounds_toArray, List.set_cons_zero, List.set_cons_succ]
            refine wpAnyH_done (by kernel_rfl) ?_ _
            clear hHx
            go_wp2_with fail
            go_meet
            refine ⟨u4.heap.size, rfl, by simp, by omega, pstart (rowIs_below (rowIs_below (rowIs_below hrl hb2 (by omega)) hb3 (by omega)) hb4 (by omega)) (rowIs_below hrh hb4 (by omega)) ((hN0.inR.below hb3 (by omega)).below hb4 (by omega)) hN1.inR (by omega) (by omega) (by omega) (by omega) (by omega) (by omega) (by omega) (by omega) (by omega) (by omega) (by omega), hB4.alloc (by omega) _, hKu4.alloc _⟩
        · go_simp
          refine (clone_any _ i1 _ w.heap.size (HQ1.out.mono hB2 (Nat.le_refl _)) HI1.out).mono ?_
          rintro e u3 ⟨z1, rfl, hN1, hb3⟩
          obtain ⟨Az1, nz1, cz1, rfl⟩ := hN1.isSlice
          have hs3 := hb3.size
          refine hK2.out _ _ ⟨(hb3.cell (p := ⟨w.heap.size, 0, none⟩) (by show w.heap.size < _; omega)).trans hH.1, (hb3.cell (p := ⟨w.heap.size, 1, none⟩) (by show w.heap.size < _; omega)).trans hH.2.1, (hb3.cell (p := ⟨w.heap.size, 2, none⟩) (by show w.heap.size < _; omega)).trans hH.2.2⟩ (fun hHx => ?_)
          clear hK2 K2 hH
          have hH := hHx
          clear hHx
          try simp only [Act.put, List.getElem_toArray, List.getElem_cons_zero, List.getElem_cons_succ, List.setIfInBounds_toArray, List.set_cons_zero, List.set_cons_succ]
          have hB3 := hB2.trans (hb3.mono (by omega))
          have hKu3 : Blk u3 (w.heap.size + 1) #[.int .i64 0, .slice none 0 0, .slice none 0 0, .int .i64 0, .int .i64 0, .int .i64 0] 34 := (hb3.block (w.heap.size + 1) (by omega)).trans hKu2
          refine wpAnyH_take (i := 13) (v := ?vn913) rfl (by kernel_rfl) (by kernel_rfl) (by kernel_rfl) (fun _ _ _ h => h) (Or.inl ⟨by rfl, ?hn913⟩) (by assumption) ?rn913
          case hn913 => intro w hSw; (try dsimp only at hSw); go_simp; (try with_reducible rfl)
          simp only [Act.put, List.getElem_toArray, List.getElem_cons_zero, List.getElem_cons_succ, List.setIfInBounds_toArray, List.set_cons_zero, List.set_cons_succ]
          refine wpAnyH_ready (rs := [7]) (by kernel_rfl) (by simp) ?_
          refine AllReadyH.cons rfl (fun K2 hK2 => ?_) AllReadyH.nil
          · go_simp
            have hrh : (u3.alloc (.cells (madeCells #[.int .i64 0] hi) 2)).rowIs u3.heap.size 2 hi (fun _ => .int .i64 0) := made_at rfl
            have hb4 : Below u3.heap.size u3 (u3.alloc (.cells (madeCells #[.int .i64 0] hi) 2)) := (Below.refl _ _).alloc (Nat.le_refl _) _
            have hs4 : u3.heap.size < (u3.alloc (.cells (madeCells #[.int .i64 0] hi) 2)).heap.size := by simp
            refine hK2.out _ _ ⟨cell_al hH.1, cell_al hH.2.1, cell_al hH.2.2⟩ (fun hHx => ?_)
            clear hK2 K2 hH
            have hH := hHx
            clear hHx
            try simp only [Act.put, List.getElem_toArray, List.getElem_cons_zero, List.getElem_cons_succ, List.setIfInBounds_toArray, List.set_cons_zero, List.set_cons_succ]
            obtain ⟨u4, hu4⟩ : ∃ u, u3.alloc (.cells (madeCells #[.int .i64 0] hi) 2) = u := ⟨_, rfl⟩
            rw [hu4] at hrh hb4 hs4 hH ⊢
            clear hu4
            have hB4 := hB3.trans (hb4.mono (by omega))
            have hKu4 : Blk u4 (w.heap.size + 1) #[.int .i64 0, .slice none 0 0, .slice none 0 0, .int .i64 0, .int .i64 0, .int .i64 0] 34 := (hb4.block (w.heap.size + 1) (by omega)).trans hKu3
            refine wpAnyH_take (i := 8) (v := ?vn108) rfl (by kernel_rfl) (by kernel_rfl) (by kernel_rfl) (fun _ _ _ h => h) (Or.inl ⟨by rfl, ?hn108⟩) (by assumption) ?rn108
            case hn108 => intro w hSw; (try dsimp only at hSw); go_simp; (try with_reducible rfl)
            simp only [Act.put, List.getElem_toArray, List.getElem_cons_zero, List.getElem_cons_succ, List.setIfInBounds_toArray, List.set_cons_zero, List.set_cons_succ]
            refine wpAnyH_take (i := 14) (v := ?vn1014) rfl (by kernel_rfl) (by kernel_rfl) (by kernel_rfl) (fun _ _ _ h => h) (Or.inl ⟨by rfl, ?hn1014⟩) (by assumption) ?rn1014
            case hn1014 => intro w hSw; (try dsimp only at hSw); go_simp; (try with_reducible rfl)
            simp only [Act.put, List.getElem_toArray, List.getElem_cons_zero, List.getElem_cons_succ, List.setIfInBounds_toArray, List.set_cons_zero, List.set_cons_succ]
            refine wpAnyH_ready (rs := [15]) (by kernel_rfl) (by simp) ?_
            refine AllReadyH.cons rfl (fun K2 hK2 => ?_) AllReadyH.nil
            go_simp
            refine hK2.out _ _ ⟨cell_al hH.1, cell_al hH.2.1, cell_al hH.2.2⟩ (fun hHx => ?_)
            clear hK2 K2
            try simp only [Act.put, List.getElem_toArray, List.getElem_cons_zero, List.getElem_cons_succ, List.setIfInBounds_toArray, List.set_cons_zero, List.set_cons_succ]
            refine wpAnyH_take (i := 16) (v := ?vn1016) rfl (by kernel_rfl) (by kernel_rfl) (by kernel_rfl) (fun _ _ _ h => h) (Or.inl ⟨by rfl, ?hn1016⟩) (by assumption) ?rn1016
            case hn1016 => intro w hSw; (try dsimp only at hSw); go_simp; (try with_reducible rfl)
            simp only [Act.put, List.getElem_toArray, List.getElem_cons_zero, List.getElem_cons_succ, List.setIfInBounds_toArray, List.set_cons_zero, List.set_cons_succ]
            refine wpAnyH_done (by kernel_rfl) ?_ _
            clear hHx
            go_wp2_with fail
            go_meet
            refine ⟨u4.heap.size, rfl, by simp, by omega, pstart (rowIs_below (rowIs_below (rowIs_below hrl hb2 (by omega)) hb3 (by omega)) hb4 (by omega)) hrh ((hN0.inR.below hb3 (by omega)).below hb4 (by omega)) (hN1.inR.below hb4 (by omega)) (by omega) (by omega) (by omega) (by omega) (by omega) (by omega) (by omega) (by omega) (by omega) (by omega) (by omega), hB4.alloc (by omega) _, hKu4.alloc _⟩
    · go_simp
      have hrh : (u0.alloc (.cells (madeCells #[.int .i64 0] hi) 2)).rowIs u0.heap.size 2 hi (fun _ => .int .i64 0) := made_at rfl
      have hb1 : Below u0.heap.size u0 (u0.alloc (.cells (madeCells #[.int .i64 0] hi) 2)) := (Below.refl _ _).alloc (Nat.le_refl _) _
      have hs1 : u0.heap.size < (u0.alloc (.cells (madeCells #[.int .i64 0] hi) 2)).heap.size := by simp
      refine hK2.out _ _ ⟨cell_al hH.1, cell_al hH.2.1, cell_al hH.2.2⟩ (fun hHx => ?_)
      clear hK2 K2 hH
      have hH := hHx
      clear hHx
      try simp only [Act.put, List.getElem_toArray, List.getElem_cons_zero, List.getElem_cons_succ, List.setIfInBounds_toArray, List.set_cons_zero, List.set_cons_succ]
      obtain ⟨u1, hu1⟩ : ∃ u, u0.alloc (.cells (madeCells #[.int .i64 0] hi) 2) = u := ⟨_, rfl⟩
      rw [hu1] at hrh hb1 hs1 hH ⊢
      clear hu1
      have hB1 := hB0.trans (hb1.mono (by omega))
      have hKu1 : Blk u1 (w.heap.size + 1) #[.int .i64 0, .slice none 0 0, .slice none 0 0, .int .i64 0, .int .i64 0, .int .i64 0] 34 := (hb1.block (w.heap.size + 1) (by omega)).trans hKu0
      refine wpAnyH_ready (rs := [4, 10]) (by kernel_rfl) (by simp) ?_
      refine AllReadyH.cons rfl (fun K2 hK2 => ?_) (AllReadyH.cons rfl (fun K2 hK2 => ?_) AllReadyH.nil)
      · go_simp
        have hrl : (u1.alloc (.cells (madeCells #[.int .i64 0] lo) 2)).rowIs u1.heap.size 2 lo (fun _ => .int .i64 0) := made_at rfl
        have hb2 : Below u1.heap.size u1 (u1.alloc (.cells (madeCells #[.int .i64 0] lo) 2)) := (Below.refl _ _).alloc (Nat.le_refl _) _
        have hs2 : u1.heap.size < (u1.alloc (.cells (madeCells #[.int .i64 0] lo) 2)).heap.size := by simp
        refine hK2.out _ _ ⟨cell_al hH.1, cell_al hH.2.1, cell_al hH.2.2⟩ (fun hHx => ?_)
        clear hK2 K2 hH
        have hH := hHx
        clear hHx
        try simp only [Act.put, List.getElem_toArray, List.getElem_cons_zero, List.getElem_cons_succ, List.setIfInBounds_toArray, List.set_cons_zero, List.set_cons_succ]
        obtain ⟨u2, hu2⟩ : ∃ u, u1.alloc (.cells (madeCells #[.int .i64 0] lo) 2) = u := ⟨_, rfl⟩
        rw [hu2] at hrl hb2 hs2 hH ⊢
        clear hu2
        have hB2 := hB1.trans (hb2.mono (by omega))
        have hKu2 : Blk u2 (w.heap.size + 1) #[.int .i64 0, .slice none 0 0, .slice none 0 0, .int .i64 0, .int .i64 0, .int .i64 0] 34 := (hb2.block (w.heap.size + 1) (by omega)).trans hKu1
        refine wpAnyH_take (i := 8) (v := ?vn128) rfl (by kernel_rfl) (by kernel_rfl) (by kernel_rfl) (fun _ _ _ h => h) (Or.inl ⟨by rfl, ?hn128⟩) (by assumption) ?rn128
        case hn128 => intro w hSw; (try dsimp only at hSw); go_simp; (try with_reducible rfl)
        simp only [Act.put, List.getElem_toArray, List.getElem_cons_zero, List.getElem_cons_succ, List.setIfInBounds_toArray, List.set_cons_zero, List.set_cons_succ]
        refine wpAnyH_ready (rs := [10]) (by kernel_rfl) (by simp) ?_
        refine AllReadyH.cons rfl (fun K2 hK2 => ?_) AllReadyH.nil
        · go_simp
          refine (clone_any _ i0 _ w.heap.size (HQ0.out.mono hB2 (Nat.le_refl _)) HI0.out).mono ?_
          rintro e u3 ⟨z0, rfl, hN0, hb3⟩
          obtain ⟨Az0, nz0, cz0, rfl⟩ := hN0.isSlice
          have hs3 := hb3.size
          refine hK2.out _ _ ⟨(hb3.cell (p := ⟨w.heap.size, 0, none⟩) (by show w.heap.size < _; omega)).trans hH.1, (hb3.cell (p := ⟨w.heap.size, 1, none⟩) (by show w.heap.size < _; omega)).trans hH.2.1, (hb3.cell (p := ⟨w.heap.size, 2, none⟩) (by show w.heap.size < _; omega)).trans hH.2.2⟩ (fun hHx => ?_)
          clear hK2 K2 hH
          have hH := hHx
          clear hHx
          try simp only [Act.put, List.getElem_toArray, List.getElem_cons_zero, List.getElem_cons_succ, List.setIfInBounds_toArray, List.set_cons_zero, List.set_cons_succ]
          have hB3 := hB2.trans (hb3.mono (by omega))
          have hKu3 : Blk u3 (w.heap.size + 1) #[.int .i64 0, .slice none 0 0, .slice none 0 0, .int .i64 0, .int .i64 0, .int .i64 0] 34 := (hb3.block (w.heap.size + 1) (by omega)).trans hKu2
          refine wpAnyH_ready (rs := [12]) (by kernel_rfl) (by simp) ?_
          refine AllReadyH.cons rfl (fun K2 hK2 => ?_) AllReadyH.nil
          · go_simp
            refine (clone_any _ i1 _ w.heap.size (HQ1.out.mono hB3 (Nat.le_refl _)) HI1.out).mono ?_
            rintro e u4 ⟨z1, rfl, hN1, hb4⟩
            obtain ⟨Az1, nz1, cz1, rfl⟩ := hN1.isSlice
            have hs4 := hb4.size
            refine hK2.out _ _ ⟨(hb4.cell (p := ⟨w.heap.size, 0, none⟩) (by show w.heap.size < _; omega)).trans hH.1, (hb4.cell (p := ⟨w.heap.size, 1, none⟩) (by show w.heap.size < _; omega)).trans hH.2.1, (hb4.cell (p := ⟨w.heap.size, 2, none⟩) (by show w.heap.size < _; omega)).trans hH.2.2⟩ (fun hHx => ?_)
            clear hK2 K2 hH
            have hH := hHx
            clear hHx
            try simp only [Act.put, List.getElem_toArray, List.getElem_cons_zero, List.getElem_cons_succ, List.setIfInBounds_toArray, List.set_cons_zero, List.set_cons_succ]
            have hB4 := hB3.trans (hb4.mono (by omega))
            have hKu4 : Blk u4 (w.heap.size + 1) #[.int .i64 0, .slice none 0 0, .slice none 0 0, .int .i64 0, .int .i64 0, .int .i64 0] 34 := (hb4.block (w.heap.size + 1) (by omega)).trans hKu3
            refine wpAnyH_take (i := 13) (v := ?vn1413) rfl (by kernel_rfl) (by kernel_rfl) (by kernel_rfl) (fun _ _ _ h => h) (Or.inl ⟨by rfl, ?hn1413⟩) (by assumption) ?rn1413
            case hn1413 => intro w hSw; (try dsimp only at hSw); go_simp; (try with_reducible rfl)
            simp only [Act.put, List.getElem_toArray, List.getElem_cons_zero, List.getElem_cons_succ, List.setIfInBounds_toArray, List.set_cons_zero, List.set_cons_succ]
            refine wpAnyH_take (i := 14) (v := ?vn1414) rfl (by kernel_rfl) (by kernel_rfl) (by kernel_rfl) (fun _ _ _ h => h) (Or.inl ⟨by rfl, ?hn1414⟩) (by assumption) ?rn1414
            case hn1414 => intro w hSw; (try dsimp only at hSw); go_simp; (try with_reducible rfl)
            simp only [Act.put, List.getElem_toArray, List.getElem_cons_zero, List.getElem_cons_succ, List.setIfInBounds_toArray, List.set_cons_zero, List.set_cons_succ]
            refine wpAnyH_ready (rs := [15]) (by kernel_rfl) (by simp) ?_
            refine AllReadyH.cons rfl (fun K2 hK2 => ?_) AllReadyH.nil
            go_simp
            refine hK2.out _ _ ⟨cell_al hH.1, cell_al hH.2.1, cell_al hH.2.2⟩ (fun hHx => ?_)
            clear hK2 K2
            try simp only [Act.put, List.getElem_toArray, List.getElem_cons_zero, List.getElem_cons_succ, List.setIfInBounds_toArray, List.set_cons_zero, List.set_cons_succ]
            refine wpAnyH_take (i := 16) (v := ?vn1416) rfl (by kernel_rfl) (by kernel_rfl) (by kernel_rfl) (fun _ _ _ h => h) (Or.inl ⟨by rfl, ?hn1416⟩) (by assumption) ?rn1416
            case hn1416 => intro w hSw; (try dsimp only at hSw); go_simp; (try with_reducible rfl)
            simp only [Act.put, List.getElem_toArray, List.getElem_cons_zero, List.getElem_cons_succ, List.setIfInBounds_toArray, List.set_cons_zero, List.set_cons_succ]
            refine wpAnyH_done (by kernel_rfl) ?_ _
            clear hHx
            go_wp2_with fail
            go_meet
            refine ⟨u4.heap.size, rfl, by simp, by omega, pstart (rowIs_below (rowIs_below hrl hb3 (by omega)) hb4 (by omega)) (rowIs_below (rowIs_below (rowIs_below hrh hb2 (by omega)) hb3 (by omega)) hb4 (by omega)) (hN0.inR.below hb4 (by omega)) hN1.inR (by omega) (by omega) (by omega) (by omega) (by omega) (by omega) (by omega) (by omega) (by omega) (by omega) (by omega), hB4.alloc (by omega) _, hKu4.alloc _⟩
      · go_simp
        refine (clone_any _ i0 _ w.heap.size (HQ0.out.mono hB1 (Nat.le_refl _)) HI0.out).mono ?_
        rintro e u2 ⟨z0, rfl, hN0, hb2⟩
        obtain ⟨Az0, nz0, cz0, rfl⟩ := hN0.isSlice
        have hs2 := hb2.size
        refine hK2.out _ _ ⟨(hb2.cell (p := ⟨w.heap.size, 0, none⟩) (by show w.heap.size < _; omega)).trans hH.1, (hb2.cell (p := ⟨w.heap.size, 1, none⟩) (by show w.heap.size < _; omega)).trans hH.2.1, (hb2.cell (p := ⟨w.heap.size, 2, none⟩) (by show w.heap.size < _; omega)).trans hH.2.2⟩ (fun hHx => ?_)
        clear hK2 K2 hH
        have hH := hHx
        clear hHx
        try simp only [Act.put, List.getElem_toArray, List.getElem_cons_zero, List.getElem_cons_succ, List.setIfInBounds_toArray, List.set_cons_zero, List.set_cons_succ]
        have hB2 := hB1.trans (hb2.mono (by omega))
        have hKu2 : Blk u2 (w.heap.size + 1) #[.int .i64 0, .slice none 0 0, .slice none 0 0, .int .i64 0, .int .i64 0, .int .i64 0] 34 := (hb2.block (w.heap.size + 1) (by omega)).trans hKu1
        refine wpAnyH_ready (rs := [4, 12]) (by kernel_rfl) (by simp) ?_
        refine AllReadyH.cons rfl (fun K2 hK2 => ?_) (AllReadyH.cons rfl (fun K2 hK2 => ?_) AllReadyH.nil)
        · go_simp
          have hrl : (u2.alloc (.cells (madeCells #[.int .i64 0] lo) 2)).rowIs u2.heap.size 2 lo (fun _ => .int .i64 0) := made_at rfl
          have hb3 : Below u2.heap.size u2 (u2.alloc (.cells (madeCells #[.int .i64 0] lo) 2)) := (Below.refl _ _).alloc (Nat.le_refl _) _
          have hs3 : u2.heap.size < (u2.alloc (.cells (madeCells #[.int .i64 0] lo) 2)).heap.size := by simp
          refine hK2.out _ _ ⟨cell_al hH.1, cell_al hH.2.1, cell_al hH.2.2⟩ (fun hHx => ?_)
          clear hK2 K2 hH
          have hH := hHx
          clear hHx
          try simp only [Act.put, List.getElem_toArray, List.getElem_cons_zero, List.getElem_cons_succ, List.setIfInBounds_toArray, List.set_cons_zero, List.set_cons_succ]
          obtain ⟨u3, hu3⟩ : ∃ u, u2.alloc (.cells (madeCells #[.int .i64 0] lo) 2) = u := ⟨_, rfl⟩
          rw [hu3] at hrl hb3 hs3 hH ⊢
          clear hu3
          have hB3 := hB2.trans (hb3.mono (by omega))
          have hKu3 : Blk u3 (w.heap.size + 1) #[.int .i64 0, .slice none 0 0, .slice none 0 0, .int .i64 0, .int .i64 0, .int .i64 0] 34 := (hb3.block (w.heap.size + 1) (by omega)).trans hKu2
          refine wpAnyH_take (i := 8) (v := ?vn168) rfl (by kernel_rfl) (by kernel_rfl) (by kernel_rfl) (fun _ _ _ h => h) (Or.inl ⟨by rfl, ?hn168⟩) (by assumption) ?rn168
          case hn168 => intro w hSw; (try dsimp only at hSw); go_simp; (try with_reducible rfl)
          simp only [Act.put, List.getElem_toArray, List.getElem_cons_zero, List.getElem_cons_succ, List.setIfInBounds_toArray, List.set_cons_zero, List.set_cons_succ]
          refine wpAnyH_ready (rs := [12]) (by kernel_rfl) (by simp) ?_
          refine AllReadyH.cons rfl (fun K2 hK2 => ?_) AllReadyH.nil
          · go_simp
            refine (clone_any _ i1 _ w.heap.size (HQ1.out.mono hB3 (Nat.le_refl _)) HI1.out).mono ?_
            rintro e u4 ⟨z1, rfl, hN1, hb4⟩
            obtain ⟨Az1, nz1, cz1, rfl⟩ := hN1.isSlice
            have hs4 := hb4.size
            refine hK2.out _ _ ⟨(hb4.cell (p := ⟨w.heap.size, 0, none⟩) (by show w.heap.size < _; omega)).trans hH.1, (hb4.cell (p := ⟨w.heap.size, 1, none⟩) (by show w.heap.size < _; omega)).trans hH.2.1, (hb4.cell (p := ⟨w.heap.size, 2, none⟩) (by show w.heap.size < _; omega)).trans hH.2.2⟩ (fun hHx => ?_)
            clear hK2 K2 hH
            have hH := hHx
            clear hHx
            try simp only [Act.put, List.getElem_toArray, List.getElem_cons_zero, List.getElem_cons_succ, List.setIfInBounds_toArray, List.set_cons_zero, List.set_cons_succ]
            have hB4 := hB3.trans (hb4.mono (by omega))
            have hKu4 : Blk u4 (w.heap.size + 1) #[.int .i64 0, .slice none 0 0, .slice none 0 0, .int .i64 0, .int .i64 0, .int .i64 0] 34 := (hb4.block (w.heap.size + 1) (by omega)).trans hKu3
            refine wpAnyH_take (i := 13) (v := ?vn1713) rfl (by kernel_rfl) (by kernel_rfl) (by kernel_rfl) (fun _ _ _ h => h) (Or.inl ⟨by rfl, ?hn1713⟩) (by assumption) ?rn1713
            case hn1713 => intro w hSw; (try dsimp only at hSw); go_simp; (try with_reducible rfl)
            simp only [Act.put, List.getElem_toArray, List.getElem_cons_zero, List.getElem_cons_succ, List.setIfInBounds_toArray, List.set_cons_zero, List.set_cons_succ]
            refine wpAnyH_take (i := 14) (v := ?vn1714) rfl (by kernel_rfl) (by kernel_rfl) (by kernel_rfl) (fun _ _ _ h => h) (Or.inl ⟨by rfl, ?hn1714⟩) (by assumption) ?rn1714
            case hn1714 => intro w hSw; (try dsimp only at hSw); go_simp; (try with_reducible rfl)
            simp only [Act.put, List.getElem_toArray, List.getElem_cons_zero, List.getElem_cons_succ, List.setIfInBounds_toArray, List.set_cons_zero, List.set_cons_succ]
            refine wpAnyH_ready (rs := [15]) (by kernel_rfl) (by simp) ?_
            refine AllReadyH.cons rfl (fun K2 hK2 => ?_) AllReadyH.nil
            go_simp
            refine hK2.out _ _ ⟨cell_al hH.1, cell_al hH.2.1, cell_al hH.2.2⟩ (fun hHx => ?_)
            clear hK2 K2
            try simp only [Act.put, List.getElem_toArray, List.getElem_cons_zero, List.getElem_cons_succ, List.setIfInBounds_toArray, List.set_cons_zero, List.set_cons_succ]
            refine wpAnyH_take (i := 16) (v := ?vn1716) rfl (by kernel_rfl) (by kernel_rfl) (by kernel_rfl) (fun _ _ _ h => h) (Or.inl ⟨by rfl, ?hn1716⟩) (by assumption) ?rn1716
            case hn1716 => intro w hSw; (try dsimp only at hSw); go_simp; (try with_reducible rfl)
            simp only [Act.put, List.getElem_toArray, List.getElem_cons_zero, List.getElem_cons_succ, List.setIfInBounds_toArray, List.set_cons_zero, List.set_cons_succ]
            refine wpAnyH_done (by kernel_rfl) ?_ _
            clear hHx
            go_wp2_with fail
            go_meet
            refine ⟨u4.heap.size, rfl, by simp, by omega, pstart (rowIs_below hrl hb4 (by omega)) (rowIs_below (rowIs_below (rowIs_below hrh hb2 (by omega)) hb3 (by omega)) hb4 (by omega)) ((hN0.inR.below hb3 (by omega)).below hb4 (by omega)) hN1.inR (by omega) (by omega) (by omega) (by omega) (by omega) (by omega) (by omega) (by omega) (by omega) (by omega) (by omega), hB4.alloc (by omega) _, hKu4.alloc _⟩
        · go_simp
          refine (clone_any _ i1 _ w.heap.size (HQ1.out.mono hB2 (Nat.le_refl _)) HI1.out).mono ?_
          rintro e u3 ⟨z1, rfl, hN1, hb3⟩
          obtain ⟨Az1, nz1, cz1, rfl⟩ := hN1.isSlice
          have hs3 := hb3.size
          refine hK2.out _ _ ⟨(hb3.cell (p := ⟨w.heap.size, 0, none⟩) (by show w.heap.size < _; omega)).trans hH.1, (hb3.cell (p := ⟨w.heap.size, 1, none⟩) (by show w.heap.size < _; omega)).trans hH.2.1, (hb3.cell (p := ⟨w.heap.size, 2, none⟩) (by show w.heap.size < _; omega)).trans hH.2.2⟩ (fun hHx => ?_)
          clear hK2 K2 hH
          have hH := hHx
          clear hHx
          try simp only [Act.put, List.getElem_toArray, List.getElem_cons_zero, List.getElem_cons_succ, List.setIfInBounds_toArray, List.set_cons_zero, List.set_cons_succ]
          have hB3 := hB2.trans (hb3.mono (by omega))
          have hKu3 : Blk u3 (w.heap.size + 1) #[.int .i64 0, .slice none 0 0, .slice none 0 0, .int .i64 0, .int .i64 0, .int .i64 0] 34 := (hb3.block (w.heap.size + 1) (by omega)).trans hKu2
          refine wpAnyH_take (i := 13) (v := ?vn1813) rfl (by kernel_rfl) (by kernel_rfl) (by kernel_rfl) (fun _ _ _ h => h) (Or.inl ⟨by rfl, ?hn1813⟩) (by assumption) ?rn1813
          case hn1813 => intro w hSw; (try dsimp only at hSw); go_simp; (try with_reducible rfl)
          simp only [Act.put, List.getElem_toArray, List.getElem_cons_zero, List.getElem_cons_succ, List.setIfInBounds_toArray, List.set_cons_zero, List.set_cons_succ]
          refine wpAnyH_ready (rs := [4]) (by kernel_rfl) (by simp) ?_
          refine AllReadyH.cons rfl (fun K2 hK2 => ?_) AllReadyH.nil
          · go_simp
            have hrl : (u3.alloc (.cells (madeCells #[.int .i64 0] lo) 2)).rowIs u3.heap.size 2 lo (fun _ => .int .i64 0) := made_at rfl
            have hb4 : Below u3.heap.size u3 (u3.alloc (.cells (madeCells #[.int .i64 0] lo) 2)) := (Below.refl _ _).alloc (Nat.le_refl _) _
            have hs4 : u3.heap.size < (u3.alloc (.cells (madeCells #[.int .i64 0] lo) 2)).heap.size := by simp
            refine hK2.out _ _ ⟨cell_al hH.1, cell_al hH.2.1, cell_al hH.2.2⟩ (fun hHx => ?_)
            clear hK2 K2 hH
            have hH := hHx
            clear hHx
            try simp only [Act.put, List.getElem_toArray, List.getElem_cons_zero, List.getElem_cons_succ, List.setIfInBounds_toArray, List.set_cons_zero, List.set_cons_succ]
            obtain ⟨u4, hu4⟩ : ∃ u, u3.alloc (.cells (madeCells #[.int .i64 0] lo) 2) = u := ⟨_, rfl⟩
            rw [hu4] at hrl hb4 hs4 hH ⊢
            clear hu4
            have hB4 := hB3.trans (hb4.mono (by omega))
            have hKu4 : Blk u4 (w.heap.size + 1) #[.int .i64 0, .slice none 0 0, .slice none 0 0, .int .i64 0, .int .i64 0, .int .i64 0] 34 := (hb4.block (w.heap.size + 1) (by omega)).trans hKu3
            refine wpAnyH_take (i := 8) (v := ?vn198) rfl (by kernel_rfl) (by kernel_rfl) (by kernel_rfl) (fun _ _ _ h => h) (Or.inl ⟨by rfl, ?hn198⟩) (by assumption) ?rn198
            case hn198 => intro w hSw; (try dsimp only at hSw); go_simp; (try with_reducible rfl)
            simp only [Act.put, List.getElem_toArray, List.getElem_cons_zero, List.getElem_cons_succ, List.setIfInBounds_toArray, List.set_cons_zero, List.set_cons_succ]
            refine wpAnyH_take (i := 14) (v := ?vn1914) rfl (by kernel_rfl) (by kernel_rfl) (by kernel_rfl) (fun _ _ _ h => h) (Or.inl ⟨by rfl, ?hn1914⟩) (by assumption) ?rn1914
            case hn1914 => intro w hSw; (try dsimp only at hSw); go_simp; (try with_reducible rfl)
            simp only [Act.put, List.getElem_toArray, List.getElem_cons_zero, List.getElem_cons_succ, List.setIfInBounds_toArray, List.set_cons_zero, List.set_cons_succ]
            refine wpAnyH_ready (rs := [15]) (by kernel_rfl) (by simp) ?_
            refine AllReadyH.cons rfl (fun K2 hK2 => ?_) AllReadyH.nil
            go_simp
            refine hK2.out _ _ ⟨cell_al hH.1, cell_al hH.2.1, cell_al hH.2.2⟩ (fun hHx => ?_)
            clear hK2 K2
            try simp only [Act.put, List.getElem_toArray, List.getElem_cons_zero, List.getElem_cons_succ, List.setIfInBounds_toArray, List.set_cons_zero, List.set_cons_succ]
            refine wpAnyH_take (i := 16) (v := ?vn1916) rfl (by kernel_rfl) (by kernel_rfl) (by kernel_rfl) (fun _ _ _ h => h) (Or.inl ⟨by rfl, ?hn1916⟩) (by assumption) ?rn1916
            case hn1916 => intro w hSw; (try dsimp only at hSw); go_simp; (try with_reducible rfl)
            simp only [Act.put, List.getElem_toArray, List.getElem_cons_zero, List.getElem_cons_succ, List.setIfInBounds_toArray, List.set_cons_zero, List.set_cons_succ]
            refine wpAnyH_done (by kernel_rfl) ?_ _
            clear hHx
            go_wp2_with fail
            go_meet
            refine ⟨u4.heap.size, rfl, by simp, by omega, pstart hrl (rowIs_below (rowIs_below (rowIs_below hrh hb2 (by omega)) hb3 (by omega)) hb4 (by omega)) ((hN0.inR.below hb3 (by omega)).below hb4 (by omega)) (hN1.inR.below hb4 (by omega)) (by omega) (by omega) (by omega) (by omega) (by omega) (by omega) (by omega) (by omega) (by omega) (by omega) (by omega), hB4.alloc (by omega) _, hKu4.alloc _⟩
    · go_simp
      refine (clone_any _ i0 _ w.heap.size (HQ0.out.mono hB0 (Nat.le_refl _)) HI0.out).mono ?_
      rintro e u1 ⟨z0, rfl, hN0, hb1⟩
      obtain ⟨Az0, nz0, cz0, rfl⟩ := hN0.isSlice
      have hs1 := hb1.size
      refine hK2.out _ _ ⟨(hb1.cell (p := ⟨w.heap.size, 0, none⟩) (by show w.heap.size < _; omega)).trans hH.1, (hb1.cell (p := ⟨w.heap.size, 1, none⟩) (by show w.heap.size < _; omega)).trans hH.2.1, (hb1.cell (p := ⟨w.heap.size, 2, none⟩) (by show w.heap.size < _; omega)).trans hH.2.2⟩ (fun hHx => ?_)
      clear hK2 K2 hH
      have hH := hHx
      clear hHx
      try simp only [Act.put, List.getElem_toArray, List.getElem_cons_zero, List.getElem_cons_succ, List.setIfInBounds_toArray, List.set_cons_zero, List.set_cons_succ]
      have hB1 := hB0.trans (hb1.mono (by omega))
      have hKu1 : Blk u1 (w.heap.size + 1) #[.int .i64 0, .slice none 0 0, .slice none 0 0, .int .i64 0, .int .i64 0, .int .i64 0] 34 := (hb1.block (w.heap.size + 1) (by omega)).trans hKu0
      refine wpAnyH_ready (rs := [4, 7, 12]) (by kernel_rfl) (by simp) ?_
      refine AllReadyH.cons rfl (fun K2 hK2 => ?_) (AllReadyH.cons rfl (fun K2 hK2 => ?_) (AllReadyH.cons rfl (fun K2 hK2 => ?_) AllReadyH.nil))
      · go_simp
        have hrl : (u1.alloc (.cells (madeCells #[.int .i64 0] lo) 2)).rowIs u1.heap.size 2 lo (fun _ => .int .i64 0) := made_at rfl
        have hb2 : Below u1.heap.size u1 (u1.alloc (.cells (madeCells #[.int .i64 0] lo) 2)) := (Below.refl _ _).alloc (Nat.le_refl _) _
        have hs2 : u1.heap.size < (u1.alloc (.cells (madeCells #[.int .i64 0] lo) 2)).heap.size := by simp
        refine hK2.out _ _ ⟨cell_al hH.1, cell_al hH.2.1, cell_al hH.2.2⟩ (fun hHx => ?_)
        clear hK2 K2 hH
        have hH := hHx
        clear hHx
        try simp only [Act.put, List.getElem_toArray, List.getElem_cons_zero, List.getElem_cons_succ, List.setIfInBounds_toArray, List.set_cons_zero, List.set_cons_succ]
        obtain ⟨u2, hu2⟩ : ∃ u, u1.alloc (.cells (madeCells #[.int .i64 0] lo) 2) = u := ⟨_, rfl⟩
        rw [hu2] at hrl hb2 hs2 hH ⊢
        clear hu2
        have hB2 := hB1.trans (hb2.mono (by omega))
        have hKu2 : Blk u2 (w.heap.size + 1) #[.int .i64 0, .slice none 0 0, .slice none 0 0, .int .i64 0, .int .i64 0, .int .i64 0] 34 := (hb2.block (w.heap.size + 1) (by omega)).trans hKu1
        refine wpAnyH_ready (rs := [7, 12]) (by kernel_rfl) (by simp) ?_
        refine AllReadyH.cons rfl (fun K2 hK2 => ?_) (AllReadyH.cons rfl (fun K2 hK2 => ?_) AllReadyH.nil)
        · go_simp
          have hrh : (u2.alloc (.cells (madeCells #[.int .i64 0] hi) 2)).rowIs u2.heap.size 2 hi (fun _ => .int .i64 0) := made_at rfl
          have hb3 : Below u2.heap.size u2 (u2.alloc (.cells (madeCells #[.int .i64 0] hi) 2)) := (Below.refl _ _).alloc (Nat.le_refl _) _
          have hs3 : u2.heap.size < (u2.alloc (.cells (madeCells #[.int .i64 0] hi) 2)).heap.size := by simp
          refine hK2.out _ _ ⟨cell_al hH.1, cell_al hH.2.1, cell_al hH.2.2⟩ (fun hHx => ?_)
          clear hK2 K2 hH
          have hH := hHx
          clear hHx
          try simp only [Act.put, List.getElem_toArray, List.getElem_cons_zero, List.getElem_cons_succ, List.setIfInBounds_toArray, List.set_cons_zero, List.set_cons_succ]
          obtain ⟨u3, hu3⟩ : ∃ u, u2.alloc (.cells (madeCells #[.int .i64 0] hi) 2) = u := ⟨_, rfl⟩
          rw [hu3] at hrh hb3 hs3 hH ⊢
          clear hu3
          have hB3 := hB2.trans (hb3.mono (by omega))
          have hKu3 : Blk u3 (w.heap.size + 1) #[.int .i64 0, .slice none 0 0, .slice none 0 0, .int .i64 0, .int .i64 0, .int .i64 0] 34 := (hb3.block (w.heap.size + 1) (by omega)).trans hKu2
          refine wpAnyH_take (i := 8) (v := ?vn228) rfl (by kernel_rfl) (by kernel_rfl) (by kernel_rfl) (fun _ _ _ h => h) (Or.inl ⟨by rfl, ?hn228⟩) (by assumption) ?rn228
          case hn228 => intro w hSw; (try dsimp only at hSw); go_simp; (try with_reducible rfl)
          simp only [Act.put, List.getElem_toArray, List.getElem_cons_zero, List.getElem_cons_succ, List.setIfInBounds_toArray, List.set_cons_zero, List.set_cons_succ]
          refine wpAnyH_ready (rs := [12]) (by kernel_rfl) (by simp) ?_
          refine AllReadyH.cons rfl (fun K2 hK2 => ?_) AllReadyH.nil
          · go_simp
            refine (clone_any _ i1 _ w.heap.size (HQ1.out.mono hB3 (Nat.le_refl _)) HI1.out).mono ?_
            rintro e u4 ⟨z1, rfl, hN1, hb4⟩
            obtain ⟨Az1, nz1, cz1, rfl⟩ := hN1.isSlice
            have hs4 := hb4.size
            refine hK2.out _ _ ⟨(hb4.cell (p := ⟨w.heap.size, 0, none⟩) (by show w.heap.size < _; omega)).trans hH.1, (hb4.cell (p := ⟨w.heap.size, 1, none⟩) (by show w.heap.size < _; omega)).trans hH.2.1, (hb4.cell (p := ⟨w.heap.size, 2, none⟩) (by show w.heap.size < _; omega)).trans hH.2.2⟩ (fun hHx => ?_)
            clear hK2 K2 hH
            have hH := hHx
            clear hHx
            try simp only [Act.put, List.getElem_toArray, List.getElem_cons_zero, List.getElem_cons_succ, List.setIfInBounds_toArray, List.set_cons_zero, List.set_cons_succ]
            have hB4 := hB3.trans (hb4.mono (by omega))
            have hKu4 : Blk u4 (w.heap.size + 1) #[.int .i64 0, .slice none 0 0, .slice none 0 0, .int .i64 0, .int .i64 0, .int .i64 0] 34 := (hb4.block (w.heap.size + 1) (by omega)).trans hKu3
            refine wpAnyH_take (i := 13) (v := ?vn2313) rfl (by kernel_rfl) (by kernel_rfl) (by kernel_rfl) (fun _ _ _ h => h) (Or.inl ⟨by rfl, ?hn2313⟩) (by assumption) ?rn2313
            case hn2313 => intro w hSw; (try dsimp only at hSw); go_simp; (try with_reducible rfl)
            simp only [Act.put, List.getElem_toArray, List.getElem_cons_zero, List.getElem_cons_succ, List.setIfInBounds_toArray, List.set_cons_zero, List.set_cons_succ]
            refine wpAnyH_take (i := 14) (v := ?vn2314) rfl (by kernel_rfl) (by kernel_rfl) (by kernel_rfl) (fun _ _ _ h => h) (Or.inl ⟨by rfl, ?hn2314⟩) (by assumption) ?rn2314
            case hn2314 => intro w hSw; (try dsimp only at hSw); go_simp; (try with_reducible rfl)
            simp only [Act.put, List.getElem_toArray, List.getElem_cons_zero, List.getElem_cons_succ, List.setIfInBounds_toArray, List.set_cons_zero, List.set_cons_succ]
            refine wpAnyH_ready (rs := [15]) (by kernel_rfl) (by simp) ?_
            refine AllReadyH.cons rfl (fun K2 hK2 => ?_) AllReadyH.nil
            go_simp
            refine hK2.out _ _ ⟨cell_al hH.1, cell_al hH.2.1, cell_al hH.2.2⟩ (fun hHx => ?_)
            clear hK2 K2
            try simp only [Act.put, List.getElem_toArray, List.getElem_cons_zero, List.getElem_cons_succ, List.setIfInBounds_toArray, List.set_cons_zero, List.set_cons_succ]
            refine wpAnyH_take (i := 16) (v := ?vn2316) rfl (by kernel_rfl) (by kernel_rfl) (by kernel_rfl) (fun _ _ _ h => h) (Or.inl ⟨by rfl, ?hn2316⟩) (by assumption) ?rn2316
            case hn2316 => intro w hSw; (try dsimp only at hSw); go_simp; (try with_reducible rfl)
            simp only [Act.put, List.getElem_toArray, List.getElem_cons_zero, List.getElem_cons_succ, List.setIfInBounds_toArray, List.set_cons_zero, List.set_cons_succ]
            refine wpAnyH_done (by kernel_rfl) ?_ _
            clear hHx
            go_wp2_with fail
            go_meet
            refine ⟨u4.heap.size, rfl, by simp, by omega, pstart (rowIs_below (rowIs_below hrl hb3 (by omega)) hb4 (by omega)) (rowIs_below hrh hb4 (by omega)) (((hN0.inR.below hb2 (by omega)).below hb3 (by omega)).below hb4 (by omega)) hN1.inR (by omega) (by omega) (by omega) (by omega) (by omega) (by omega) (by omega) (by omega) (by omega) (by omega) (by omega), hB4.alloc (by omega) _, hKu4.alloc _⟩
        · go_simp
          refine (clone_any _ i1 _ w.heap.size (HQ1.out.mono hB2 (Nat.le_refl _)) HI1.out).mono ?_
          rintro e u3 ⟨z1, rfl, hN1, hb3⟩
          obtain ⟨Az1, nz1, cz1, rfl⟩ := hN1.isSlice
          have hs3 := hb3.size
          refine hK2.out _ _ ⟨(hb3.cell (p := ⟨w.heap.size, 0, none⟩) (by show w.heap.size < _; omega)).trans hH.1, (hb3.cell (p := ⟨w.heap.size, 1, none⟩) (by show w.heap.size < _; omega)).trans hH.2.1, (hb3.cell (p := ⟨w.heap.size, 2, none⟩) (by show w.heap.size < _; omega)).trans hH.2.2⟩ (fun hHx => ?_)
          clear hK2 K2 hH
          have hH := hHx
          clear hHx
          try simp only [Act.put, List.getElem_toArray, List.getElem_cons_zero, List.getElem_cons_succ, List.setIfInBounds_toArray, List.set_cons_zero, List.set_cons_succ]
          have hB3 := hB2.trans (hb3.mono (by omega))
          have hKu3 : Blk u3 (w.heap.size + 1) #[.int .i64 0, .slice none 0 0, .slice none 0 0, .int .i64 0, .int .i64 0, .int .i64 0] 34 := (hb3.block (w.heap.size + 1) (by omega)).trans hKu2
          refine wpAnyH_take (i := 13) (v := ?vn2413) rfl (by kernel_rfl) (by kernel_rfl) (by kernel_rfl) (fun _ _ _ h => h) (Or.inl ⟨by rfl, ?hn2413⟩) (by assumption) ?rn2413
          case hn2413 => intro w hSw; (try dsimp only at hSw); go_simp; (try with_reducible rfl)
          simp only [Act.put, List.getElem_toArray, List.getElem_cons_zero, List.getElem_cons_succ, List.setIfInBounds_toArray, List.set_cons_zero, List.set_cons_succ]
          refine wpAnyH_ready (rs := [7]) (by kernel_rfl) (by simp) ?_
          refine AllReadyH.cons rfl (fun K2 hK2 => ?_) AllReadyH.nil
          · go_simp
            have hrh : (u3.alloc (.cells (madeCells #[.int .i64 0] hi) 2)).rowIs u3.heap.size 2 hi (fun _ => .int .i64 0) := made_at rfl
            have hb4 : Below u3.heap.size u3 (u3.alloc (.cells (madeCells #[.int .i64 0] hi) 2)) := (Below.refl _ _).alloc (Nat.le_refl _) _
            have hs4 : u3.heap.size < (u3.alloc (.cells (madeCells #[.int .i64 0] hi) 2)).heap.size := by simp
            refine hK2.out _ _ ⟨cell_al hH.1, cell_al hH.2.1, cell_al hH.2.2⟩ (fun hHx => ?_)
            clear hK2 K2 hH
            have hH := hHx
            clear hHx
            try simp only [Act.put, List.getElem_toArray, List.getElem_cons_zero, List.getElem_cons_succ, List.setIfInBounds_toArray, List.set_cons_zero, List.set_cons_succ]
            obtain ⟨u4, hu4⟩ : ∃ u, u3.alloc (.cells (madeCells #[.int .i64 0] hi) 2) = u := ⟨_, rfl⟩
            rw [hu4] at hrh hb4 hs4 hH ⊢
            clear hu4
            have hB4 := hB3.trans (hb4.mono (by omega))
            have hKu4 : Blk u4 (w.heap.size + 1) #[.int .i64 0, .slice none 0 0, .slice none 0 0, .int .i64 0, .int .i64 0, .int .i64 0] 34 := (hb4.block (w.heap.size + 1) (by omega)).trans hKu3
            refine wpAnyH_take (i := 8) (v := ?vn258) rfl (by kernel_rfl) (by kernel_rfl) (by kernel_rfl) (fun _ _ _ h => h) (Or.inl ⟨by rfl, ?hn258⟩) (by assumption) ?rn258
            case hn258 => intro w hSw; (try dsimp only at hSw); go_simp; (try with_reducible rfl)
            simp only [Act.put, List.getElem_toArray, List.getElem_cons_zero, List.getElem_cons_succ, List.setIfInBounds_toArray, List.set_cons_zero, List.set_cons_succ]
            refine wpAnyH_take (i := 14) (v := ?vn2514) rfl (by kernel_rfl) (by kernel_rfl) (by kernel_rfl) (fun _ _ _ h => h) (Or.inl ⟨by rfl, ?hn2514⟩) (by assumption) ?rn2514
            case hn2514 => intro w hSw; (try dsimp only at hSw); go_simp; (try with_reducible rfl)
            simp only [Act.put, List.getElem_toArray, List.getElem_cons_zero, List.getElem_cons_succ, List.setIfInBounds_toArray, List.set_cons_zero, List.set_cons_succ]
            refine wpAnyH_ready (rs := [15]) (by kernel_rfl) (by simp) ?_
            refine AllReadyH.cons rfl (fun K2 hK2 => ?_) AllReadyH.nil
            go_simp
            refine hK2.out _ _ ⟨cell_al hH.1, cell_al hH.2.1, cell_al hH.2.2⟩ (fun hHx => ?_)
            clear hK2 K2
            try simp only [Act.put, List.getElem_toArray, List.getElem_cons_zero, List.getElem_cons_succ, List.setIfInBounds_toArray, List.set_cons_zero, List.set_cons_succ]
            refine wpAnyH_take (i := 16) (v := ?vn2516) rfl (by kernel_rfl) (by kernel_rfl) (by kernel_rfl) (fun _ _ _ h => h) (Or.inl ⟨by rfl, ?hn2516⟩) (by assumption) ?rn2516
            case hn2516 => intro w hSw; (try dsimp only at hSw); go_simp; (try with_reducible rfl)
            simp only [Act.put, List.getElem_toArray, List.getElem_cons_zero, List.getElem_cons_succ, List.setIfInBounds_toArray, List.set_cons_zero, List.set_cons_succ]
            refine wpAnyH_done (by kernel_rfl) ?_ _
            clear hHx
            go_wp2_with fail
            go_meet
            refine ⟨u4.heap.size, rfl, by simp, by omega, pstart (rowIs_below (rowIs_below hrl hb3 (by omega)) hb4 (by omega)) hrh (((hN0.inR.below hb2 (by omega)).below hb3 (by omega)).below hb4 (by omega)) (hN1.inR.below hb4 (by omega)) (by omega) (by omega) (by omega) (by omega) (by omega) (by omega) (by omega) (by omega) (by omega) (by omega) (by omega), hB4.alloc (by omega) _, hKu4.alloc _⟩
      · go_simp
        have hrh : (u1.alloc (.cells (madeCells #[.int .i64 0] hi) 2)).rowIs u1.heap.size 2 hi (fun _ => .int .i64 0) := made_at rfl
        have hb2 : Below u1.heap.size u1 (u1.alloc (.cells (madeCells #[.int .i64 0] hi) 2)) := (Below.refl _ _).alloc (Nat.le_refl _) _
        have hs2 : u1.heap.size < (u1.alloc (.cells (madeCells #[.int .i64 0] hi) 2)).heap.size := by simp
        refine hK2.out _ _ ⟨cell_al hH.1, cell_al hH.2.1, cell_al hH.2.2⟩ (fun hHx => ?_)
        clear hK2 K2 hH
        have hH := hHx
        clear hHx
        try simp only [Act.put, List.getElem_toArray, List.getElem_cons_zero, List.getElem_cons_succ, List.setIfInBounds_toArray, List.set_cons_zero, List.set_cons_succ]
        obtain ⟨u2, hu2⟩ : ∃ u, u1.alloc (.cells (madeCells #[.int .i64 0] hi) 2) = u := ⟨_, rfl⟩
        rw [hu2] at hrh hb2 hs2 hH ⊢
        clear hu2
        have hB2 := hB1.trans (hb2.mono (by omega))
        have hKu2 : Blk u2 (w.heap.size + 1) #[.int .i64 0, .slice none 0 0, .slice none 0 0, .int .i64 0, .int .i64 0, .int .i64 0] 34 := (hb2.block (w.heap.size + 1) (by omega)).trans hKu1
        refine wpAnyH_ready (rs := [4, 12]) (by kernel_rfl) (by simp) ?_
        refine AllReadyH.cons rfl (fun K2 hK2 => ?_) (AllReadyH.cons rfl (fun K2 hK2 => ?_) AllReadyH.nil)
        · go_simp
          have hrl : (u2.alloc (.cells (madeCells #[.int .i64 0] lo) 2)).rowIs u2.heap.size 2 lo (fun _ => .int .i64 0) := made_at rfl
          have hb3 : Below u2.heap.size u2 (u2.alloc (.cells (madeCells #[.int .i64 0] lo) 2)) := (Below.refl _ _).alloc (Nat.le_refl _) _
          have hs3 : u2.heap.size < (u2.alloc (.cells (madeCells #[.int .i64 0] lo) 2)).heap.size := by simp
          refine hK2.out _ _ ⟨cell_al hH.1, cell_al hH.2.1, cell_al hH.2.2⟩ (fun hHx => ?_)
          clear hK2 K2 hH
          have hH := hHx
          clear hHx
          try simp only [Act.put, List.getElem_toArray, List.getElem_cons_zero, List.getElem_cons_succ, List.setIfInBounds_toArray, List.set_cons_zero, List.set_cons_succ]
          obtain ⟨u3, hu3⟩ : ∃ u, u2.alloc (.cells (madeCells #[.int .i64 0] lo) 2) = u := ⟨_, rfl⟩
          rw [hu3] at hrl hb3 hs3 hH ⊢
          clear hu3
          have hB3 := hB2.trans (hb3.mono (by omega))
          have hKu3 : Blk u3 (w.heap.size + 1) #[.int .i64 0, .slice none 0 0, .slice none 0 0, .int .i64 0, .int .i64 0, .int .i64 0] 34 := (hb3.block (w.heap.size + 1) (by omega)).trans hKu2
          refine wpAnyH_take (i := 8) (v := ?vn278) rfl (by kernel_rfl) (by kernel_rfl) (by kernel_rfl) (fun _ _ _ h => h) (Or.inl ⟨by rfl, ?hn278⟩) (by assumption) ?rn278
          case hn278 => intro w hSw; (try dsimp only at hSw); go_simp; (try with_reducible rfl)
          simp only [Act.put, List.getElem_toArray, List.getElem_cons_zero, List.getElem_cons_succ, List.setIfInBounds_toArray, List.set_cons_zero, List.set_cons_succ]
          refine wpAnyH_ready (rs := [12]) (by kernel_rfl) (by simp) ?_
          refine AllReadyH.cons rfl (fun K2 hK2 => ?_) AllReadyH.nil
          · go_simp
            refine (clone_any _ i1 _ w.heap.size (HQ1.out.mono hB3 (Nat.le_refl _)) HI1.out).mono ?_
            rintro e u4 ⟨z1, rfl, hN1, hb4⟩
            obtain ⟨Az1, nz1, cz1, rfl⟩ := hN1.isSlice
            have hs4 := hb4.size
            refine hK2.out _ _ ⟨(hb4.cell (p := ⟨w.heap.size, 0, none⟩) (by show w.heap.size < _; omega)).trans hH.1, (hb4.cell (p := ⟨w.heap.size, 1, none⟩) (by show w.heap.size < _; omega)).trans hH.2.1, (hb4.cell (p := ⟨w.heap.size, 2, none⟩) (by show w.heap.size < _; omega)).trans hH.2.2⟩ (fun hHx => ?_)
            clear hK2 K2 hH
            have hH := hHx
            clear hHx
            try simp only [Act.put, List.getElem_toArray, List.getElem_cons_zero, List.getElem_cons_succ, List.setIfInBounds_toArray, List.set_cons_zero, List.set_cons_succ]
            have hB4 := hB3.trans (hb4.mono (by omega))
            have hKu4 : Blk u4 (w.heap.size + 1) #[.int .i64 0, .slice none 0 0, .slice none 0 0, .int .i64 0, .int .i64 0, .int .i64 0] 34 := (hb4.block (w.heap.size + 1) (by omega)).trans hKu3
            refine wpAnyH_take (i := 13) (v := ?vn2813) rfl (by kernel_rfl) (by kernel_rfl) (by kernel_rfl) (fun _ _ _ h => h) (Or.inl ⟨by rfl, ?hn2813⟩) (by assumption) ?rn2813
            case hn2813 => intro w hSw; (try dsimp only at hSw); go_simp; (try with_reducible rfl)
            simp only [Act.put, List.getElem_toArray, List.getElem_cons_zero, List.getElem_cons_succ, List.setIfInBounds_toArray, List.set_cons_zero, List.set_cons_succ]
            refine wpAnyH_take (i := 14) (v := ?vn2814) rfl (by kernel_rfl) (by kernel_rfl) (by kernel_rfl) (fun _ _ _ h => h) (Or.inl ⟨by rfl, ?hn2814⟩) (by assumption) ?rn2814
            case hn2814 => intro w hSw; (try dsimp only at hSw); go_simp; (try with_reducible rfl)
            simp only [Act.put, List.getElem_toArray, List.getElem_cons_zero, List.getElem_cons_succ, List.setIfInBounds_toArray, List.set_cons_zero, List.set_cons_succ]
            refine wpAnyH_ready (rs := [15]) (by kernel_rfl) (by simp) ?_
            refine AllReadyH.cons rfl (fun K2 hK2 => ?_) AllReadyH.nil
            go_simp
            refine hK2.out _ _ ⟨cell_al hH.1, cell_al hH.2.1, cell_al hH.2.2⟩ (fun hHx => ?_)
            clear hK2 K2
            try simp only [Act.put, List.getElem_toArray, List.getElem_cons_zero, List.getElem_cons_succ, List.setIfInBounds_toArray, List.set_cons_zero, List.set_cons_succ]
            refine wpAnyH_take (i := 16) (v := ?vn2816) rfl (by kernel_rfl) (by kernel_rfl) (by kernel_rfl) (fun _ _ _ h => h) (Or.inl ⟨by rfl, ?hn2816⟩) (by assumption) ?rn2816
            case hn2816 => intro w hSw; (try dsimp only at hSw); go_simp; (try with_reducible rfl)
            simp only [Act.put, List.getElem_toArray, List.getElem_cons_zero, List.getElem_cons_succ, List.setIfInBounds_toArray, List.set_cons_zero, List.set_cons_succ]
            refine wpAnyH_done (by kernel_rfl) ?_ _
            clear hHx
            go_wp2_with fail
            go_meet
            refine ⟨u4.heap.size, rfl, by simp, by omega, pstart (rowIs_below hrl hb4 (by omega)) (rowIs_below (rowIs_below hrh hb3 (by omega)) hb4 (by omega)) (((hN0.inR.below hb2 (by omega)).below hb3 (by omega)).below hb4 (by omega)) hN1.inR (by omega) (by omega) (by omega) (by omega) (by omega) (by omega) (by omega) (by omega) (by omega) (by omega) (by omega), hB4.alloc (by omega) _, hKu4.alloc _⟩
        · go_simp
          refine (clone_any _ i1 _ w.heap.size (HQ1.out.mono hB2 (Nat.le_refl _)) HI1.out).mono ?_
          rintro e u3 ⟨z1, rfl, hN1, hb3⟩
          obtain ⟨Az1, nz1, cz1, rfl⟩ := hN1.isSlice
          have hs3 := hb3.size
          refine hK2.out _ _ ⟨(hb3.cell (p := ⟨w.heap.size, 0, none⟩) (by show w.heap.size < _; omega)).trans hH.1, (hb3.cell (p := ⟨w.heap.size, 1, none⟩) (by show w.heap.size < _; omega)).trans hH.2.1, (hb3.cell (p := ⟨w.heap.size, 2, none⟩) (by show w.heap.size < _; omega)).trans hH.2.2⟩ (fun hHx => ?_)
          clear hK2 K2 hH
          have hH := hHx
          clear hHx
          try simp only [Act.put, List.getElem_toArray, List.getElem_cons_zero, List.getElem_cons_succ, List.setIfInBounds_toArray, List.set_cons_zero, List.set_cons_succ]
          have hB3 := hB2.trans (hb3.mono (by omega))
          have hKu3 : Blk u3 (w.heap.size + 1) #[.int .i64 0, .slice none 0 0, .slice none 0 0, .int .i64 0, .int .i64 0, .int .i64 0] 34 := (hb3.block (w.heap.size + 1) (by omega)).trans hKu2
          refine wpAnyH_take (i := 13) (v := ?vn2913) rfl (by kernel_rfl) (by kernel_rfl) (by kernel_rfl) (fun _ _ _ h => h) (Or.inl ⟨by rfl, ?hn2913⟩) (by assumption) ?rn2913
          case hn2913 => intro w hSw; (try dsimp only at hSw); go_simp; (try with_reducible rfl)
          simp only [Act.put, List.getElem_toArray, List.getElem_cons_zero, List.getElem_cons_succ, List.setIfInBounds_toArray, List.set_cons_zero, List.set_cons_succ]
          refine wpAnyH_ready (rs := [4]) (by kernel_rfl) (by simp) ?_
          refine AllReadyH.cons rfl (fun K2 hK2 => ?_) AllReadyH.nil
          · go_simp
            have hrl : (u3.alloc (.cells (madeCells #[.int .i64 0] lo) 2)).rowIs u3.heap.size 2 lo (fun _ => .int .i64 0) := made_at rfl
            have hb4 : Below u3.heap.size u3 (u3.alloc (.cells (madeCells #[.int .i64 0] lo) 2)) := (Below.refl _ _).alloc (Nat.le_refl _) _
            have hs4 : u3.heap.size < (u3.alloc (.cells (madeCells #[.int .i64 0] lo) 2)).heap.size := by simp
            refine hK2.out _ _ ⟨cell_al hH.1, cell_al hH.2.1, cell_al hH.2.2⟩ (fun hHx => ?_)
            clear hK2 K2 hH
            have hH := hHx
            clear hHx
            try simp only [Act.put, List.getElem_toArray, List.getElem_cons_zero, List.getElem_cons_succ, List.setIfInBounds_toArray, List.set_cons_zero, List.set_cons_succ]
            obtain ⟨u4, hu4⟩ : ∃ u, u3.alloc (.cells (madeCells #[.int .i64 0] lo) 2) = u := ⟨_, rfl⟩
            rw [hu4] at hrl hb4 hs4 hH ⊢
            clear hu4
            have hB4 := hB3.trans (hb4.mono (by omega))
            have hKu4 : Blk u4 (w.heap.size + 1) #[.int .i64 0, .slice none 0 0, .slice none 0 0, .int .i64 0, .int .i64 0, .int .i64 0] 34 := (hb4.block (w.heap.size + 1) (by omega)).trans hKu3
            refine wpAnyH_take (i := 8) (v := ?vn308) rfl (by kernel_rfl) (by kernel_rfl) (by kernel_rfl) (fun _ _ _ h => h) (Or.inl ⟨by rfl, ?hn308⟩) (by assumption) ?rn308
            case hn308 => intro w hSw; (try dsimp only at hSw); go_simp; (try with_reducible rfl)
            simp only [Act.put, List.getElem_toArray, List.getElem_cons_zero, List.getElem_cons_succ, List.setIfInBounds_toArray, List.set_cons_zero, List.set_cons_succ]
            refine wpAnyH_take (i := 14) (v := ?vn3014) rfl (by kernel_rfl) (by kernel_rfl) (by kernel_rfl) (fun _ _ _ h => h) (Or.inl ⟨by rfl, ?hn3014⟩) (by assumption) ?rn3014
            case hn3014 => intro w hSw; (try dsimp only at hSw); go_simp; (try with_reducible rfl)
            simp only [Act.put, List.getElem_toArray, List.getElem_cons_zero, List.getElem_cons_succ, List.setIfInBounds_toArray, List.set_cons_zero, List.set_cons_succ]
            refine wpAnyH_ready (rs := [15]) (by kernel_rfl) (by simp) ?_
            refine AllReadyH.cons rfl (fun K2 hK2 => ?_) AllReadyH.nil
            go_simp
            refine hK2.out _ _ ⟨cell_al hH.1, cell_al hH.2.1, cell_al hH.2.2⟩ (fun hHx => ?_)
            clear hK2 K2
            try simp only [Act.put, List.getElem_toArray, List.getElem_cons_zero, List.getElem_cons_succ, List.setIfInBounds_toArray, List.set_cons_zero, List.set_cons_succ]
            refine wpAnyH_take (i := 16) (v := ?vn3016) rfl (by kernel_rfl) (by kernel_rfl) (by kernel_rfl) (fun _ _ _ h => h) (Or.inl ⟨by rfl, ?hn3016⟩) (by assumption) ?rn3016
            case hn3016 => intro w hSw; (try dsimp only at hSw); go_simp; (try with_reducible rfl)
            simp only [Act.put, List.getElem_toArray, List.getElem_cons_zero, List.getElem_cons_succ, List.setIfInBounds_toArray, List.set_cons_zero, List.set_cons_succ]
            refine wpAnyH_done (by kernel_rfl) ?_ _
            clear hHx
            go_wp2_with fail
            go_meet
            refine ⟨u4.heap.size, rfl, by simp, by omega, pstart hrl (rowIs_below (rowIs_below hrh hb3 (by omega)) hb4 (by omega)) (((hN0.inR.below hb2 (by omega)).below hb3 (by omega)).below hb4 (by omega)) (hN1.inR.below hb4 (by omega)) (by omega) (by omega) (by omega) (by omega) (by omega) (by omega) (by omega) (by omega) (by omega) (by omega) (by omega), hB4.alloc (by omega) _, hKu4.alloc _⟩
      · go_simp
        refine (clone_any _ i1 _ w.heap.size (HQ1.out.mono hB1 (Nat.le_refl _)) HI1.out).mono ?_
        rintro e u2 ⟨z1, rfl, hN1, hb2⟩
        obtain ⟨Az1, nz1, cz1, rfl⟩ := hN1.isSlice
        have hs2 := hb2.size
        refine hK2.out _ _ ⟨(hb2.cell (p := ⟨w.heap.size, 0, none⟩) (by show w.heap.size < _; omega)).trans hH.1, (hb2.cell (p := ⟨w.heap.size, 1, none⟩) (by show w.heap.size < _; omega)).trans hH.2.1, (hb2.cell (p := ⟨w.heap.size, 2, none⟩) (by show w.heap.size < _; omega)).trans hH.2.2⟩ (fun hHx => ?_)
        clear hK2 K2 hH
        have hH := hHx
        clear hHx
        try simp only [Act.put, List.getElem_toArray, List.getElem_cons_zero, List.getElem_cons_succ, List.setIfInBounds_toArray, List.set_cons_zero, List.set_cons_succ]
        have hB2 := hB1.trans (hb2.mono (by omega))
        have hKu2 : Blk u2 (w.heap.size + 1) #[.int .i64 0, .slice none 0 0, .slice none 0 0, .int .i64 0, .int .i64 0, .int .i64 0] 34 := (hb2.block (w.heap.size + 1) (by omega)).trans hKu1
        refine wpAnyH_take (i := 13) (v := ?vn3113) rfl (by kernel_rfl) (by kernel_rfl) (by kernel_rfl) (fun _ _ _ h => h) (Or.inl ⟨by rfl, ?hn3113⟩) (by assumption) ?rn3113
        case hn3113 => intro w hSw; (try dsimp only at hSw); go_simp; (try with_reducible rfl)
        simp only [Act.put, List.getElem_toArray, List.getElem_cons_zero, List.getElem_cons_succ, List.setIfInBounds_toArray, List.set_cons_zero, List.set_cons_succ]
        refine wpAnyH_ready (rs := [4, 7]) (by kernel_rfl) (by simp) ?_
        refine AllReadyH.cons rfl (fun K2 hK2 => ?_) (AllReadyH.cons rfl (fun K2 hK2 => ?_) AllReadyH.nil)
        · go_simp
          have hrl : (u2.alloc (.cells (madeCells #[.int .i64 0] lo) 2)).rowIs u2.heap.size 2 lo (fun _ => .int .i64 0) := made_at rfl
          have hb3 : Below u2.heap.size u2 (u2.alloc (.cells (madeCells #[.int .i64 0] lo) 2)) := (Below.refl _ _).alloc (Nat.le_refl _) _
          have hs3 : u2.heap.size < (u2.alloc (.cells (madeCells #[.int .i64 0] lo) 2)).heap.size := by simp
          refine hK2.out _ _ ⟨cell_al hH.1, cell_al hH.2.1, cell_al hH.2.2⟩ (fun hHx => ?_)
          clear hK2 K2 hH
          have hH := hHx
          clear hHx
          try simp only [Act.put, List.getElem_toArray, List.getElem_cons_zero, List.getElem_cons_succ, List.setIfInBounds_toArray, List.set_cons_zero, List.set_cons_succ]
          obtain ⟨u3, hu3⟩ : ∃ u, u2.alloc (.cells (madeCells #[.int .i64 0] lo) 2) = u := ⟨_, rfl⟩
          rw [hu3] at hrl hb3 hs3 hH ⊢
          clear hu3
          have hB3 := hB2.trans (hb3.mono (by omega))
          have hKu3 : Blk u3 (w.heap.size + 1) #[.int .i64 0, .slice none 0 0, .slice none 0 0, .int .i64 0, .int .i64 0, .int .i64 0] 34 := (hb3.block (w.heap.size + 1) (by omega)).trans hKu2
          refine wpAnyH_ready (rs := [7]) (by kernel_rfl) (by simp) ?_
          refine AllReadyH.cons rfl (fun K2 hK2 => ?_) AllReadyH.nil
          · go_simp
            have hrh : (u3.alloc (.cells (madeCells #[.int .i64 0] hi) 2)).rowIs u3.heap.size 2 hi (fun _ => .int .i64 0) := made_at rfl
            have hb4 : Below u3.heap.size u3 (u3.alloc (.cells (madeCells #[.int .i64 0] hi) 2)) := (Below.refl _ _).alloc (Nat.le_refl _) _
            have hs4 : u3.heap.size < (u3.alloc (.cells (madeCells #[.int .i64 0] hi) 2)).heap.size := by simp
            refine hK2.out _ _ ⟨cell_al hH.1, cell_al hH.2.1, cell_al hH.2.2⟩ (fun hHx => ?_)
            clear hK2 K2 hH
            have hH := hHx
            clear hHx
            try simp only [Act.put, List.getElem_toArray, List.getElem_cons_zero, List.getElem_cons_succ, List.setIfInBounds_toArray, List.set_cons_zero, List.set_cons_succ]
            obtain ⟨u4, hu4⟩ : ∃ u, u3.alloc (.cells (madeCells #[.int .i64 0] hi) 2) = u := ⟨_, rfl⟩
            rw [hu4] at hrh hb4 hs4 hH ⊢
            clear hu4
            have hB4 := hB3.trans (hb4.mono (by omega))
            have hKu4 : Blk u4 (w.heap.size + 1) #[.int .i64 0, .slice none 0 0, .slice none 0 0, .int .i64 0, .int .i64 0, .int .i64 0] 34 := (hb4.block (w.heap.size + 1) (by omega)).trans hKu3
            refine wpAnyH_take (i := 8) (v := ?vn338) rfl (by kernel_rfl) (by kernel_rfl) (by kernel_rfl) (fun _ _ _ h => h) (Or.inl ⟨by rfl, ?hn338⟩) (by assumption) ?rn338
            case hn338 => intro w hSw; (try dsimp only at hSw); go_simp; (try with_reducible rfl)
            simp only [Act.put, List.getElem_toArray, List.getElem_cons_zero, List.getElem_cons_succ, List.setIfInBounds_toArray, List.set_cons_zero, List.set_cons_succ]
            refine wpAnyH_take (i := 14) (v := ?vn3314) rfl (by kernel_rfl) (by kernel_rfl) (by kernel_rfl) (fun _ _ _ h => h) (Or.inl ⟨by rfl, ?hn3314⟩) (by assumption) ?rn3314
            case hn3314 => intro w hSw; (try dsimp only at hSw); go_simp; (try with_reducible rfl)
            simp only [Act.put, List.getElem_toArray, List.getElem_cons_zero, List.getElem_cons_succ, List.setIfInBounds_toArray, List.set_cons_zero, List.set_cons_succ]
            refine wpAnyH_ready (rs := [15]) (by kernel_rfl) (by simp) ?_
            refine AllReadyH.cons rfl (fun K2 hK2 => ?_) AllReadyH.nil
            go_simp
            refine hK2.out _ _ ⟨cell_al hH.1, cell_al hH.2.1, cell_al hH.2.2⟩ (fun hHx => ?_)
            clear hK2 K2
            try simp only [Act.put, List.getElem_toArray, List.getElem_cons_zero, List.getElem_cons_succ, List.setIfInBounds_toArray, List.set_cons_zero, List.set_cons_succ]
            refine wpAnyH_take (i := 16) (v := ?vn3316) rfl (by kernel_rfl) (by kernel_rfl) (by kernel_rfl) (fun _ _ _ h => h) (Or.inl ⟨by rfl, ?hn3316⟩) (by assumption) ?rn3316
            case hn3316 => intro w hSw; (try dsimp only at hSw); go_simp; (try with_reducible rfl)
            simp only [Act.put, List.getElem_toArray, List.getElem_cons_zero, List.getElem_cons_succ, List.setIfInBounds_toArray, List.set_cons_zero, List.set_cons_succ]
            refine wpAnyH_done (by kernel_rfl) ?_ _
            clear hHx
            go_wp2_with fail
            go_meet
            refine ⟨u4.heap.size, rfl, by simp, by omega, pstart (rowIs_below hrl hb4 (by omega)) hrh (((hN0.inR.below hb2 (by omega)).below hb3 (by omega)).below hb4 (by omega)) ((hN1.inR.below hb3 (by omega)).below hb4 (by omega)) (by omega) (by omega) (by omega) (by omega) (by omega) (by omega) (by omega) (by omega) (by omega) (by omega) (by omega), hB4.alloc (by omega) _, hKu4.alloc _⟩
        · go_simp
          have hrh : (u2.alloc (.cells (madeCells #[.int .i64 0] hi) 2)).rowIs u2.heap.size 2 hi (fun _ => .int .i64 0) := made_at rfl
          have hb3 : Below u2.heap.size u2 (u2.alloc (.cells (madeCells #[.int .i64 0] hi) 2)) := (Below.refl _ _).alloc (Nat.le_refl _) _
          have hs3 : u2.heap.size < (u2.alloc (.cells (madeCells #[.int .i64 0] hi) 2)).heap.size := by simp
          refine hK2.out _ _ ⟨cell_al hH.1, cell_al hH.2.1, cell_al hH.2.2⟩ (fun hHx => ?_)
          clear hK2 K2 hH
          have hH := hHx
          clear hHx
          try simp only [Act.put, List.getElem_toArray, List.getElem_cons_zero, List.getElem_cons_succ, List.setIfInBounds_toArray, List.set_cons_zero, List.set_cons_succ]
          obtain ⟨u3, hu3⟩ : ∃ u, u2.alloc (.cells (madeCells #[.int .i64 0] hi) 2) = u := ⟨_, rfl⟩
          rw [hu3] at hrh hb3 hs3 hH ⊢
          clear hu3
          have hB3 := hB2.trans (hb3.mono (by omega))
          have hKu3 : Blk u3 (w.heap.size + 1) #[.int .i64 0, .slice none 0 0, .slice none 0 0, .int .i64 0, .int .i64 0, .int .i64 0] 34 := (hb3.block (w.heap.size + 1) (by omega)).trans hKu2
          refine wpAnyH_ready (rs := [4]) (by kernel_rfl) (by simp) ?_
          refine AllReadyH.cons rfl (fun K2 hK2 => ?_) AllReadyH.nil
          · go_simp
            have hrl : (u3.alloc (.cells (madeCells #[.int .i64 0] lo) 2)).rowIs u3.heap.size 2 lo (fun _ => .int .i64 0) := made_at rfl
            have hb4 : Below u3.heap.size u3 (u3.alloc (.cells (madeCells #[.int .i64 0] lo) 2)) := (Below.refl _ _).alloc (Nat.le_refl _) _
            have hs4 : u3.heap.size < (u3.alloc (.cells (madeCells #[.int .i64 0] lo) 2)).heap.size := by simp
            refine hK2.out _ _ ⟨cell_al hH.1, cell_al hH.2.1, cell_al hH.2.2⟩ (fun hHx => ?_)
            clear hK2 K2 hH
            have hH := hHx
            clear hHx
            try simp only [Act.put, List.getElem_toArray, List.getElem_cons_zero, List.getElem_cons_succ, List.setIfInBounds_toArray, List.set_cons_zero, List.set_cons_succ]
            obtain ⟨u4, hu4⟩ : ∃ u, u3.alloc (.cells (madeCells #[.int .i64 0] lo) 2) = u := ⟨_, rfl⟩
            rw [hu4] at hrl hb4 hs4 hH ⊢
            clear hu4
            have hB4 := hB3.trans (hb4.mono (by omega))
            have hKu4 : Blk u4 (w.heap.size + 1) #[.int .i64 0, .slice none 0 0, .slice none 0 0, .int .i64 0, .int .i64 0, .int .i64 0] 34 := (hb4.block (w.heap.size + 1) (by omega)).trans hKu3
            refine wpAnyH_take (i := 8) (v := ?vn358) rfl (by kernel_rfl) (by kernel_rfl) (by kernel_rfl) (fun _ _ _ h => h) (Or.inl ⟨by rfl, ?hn358⟩) (by assumption) ?rn358
            case hn358 => intro w hSw; (try dsimp only at hSw); go_simp; (try with_reducible rfl)
            simp only [Act.put, List.getElem_toArray, List.getElem_cons_zero, List.getElem_cons_succ, List.setIfInBounds_toArray, List.set_cons_zero, List.set_cons_succ]
            refine wpAnyH_take (i := 14) (v := ?vn3514) rfl (by kernel_rfl) (by kernel_rfl) (by kernel_rfl) (fun _ _ _ h => h) (Or.inl ⟨by rfl, ?hn3514⟩) (by assumption) ?rn3514
            case hn3514 => intro w hSw; (try dsimp only at hSw); go_simp; (try with_reducible rfl)
            simp only [Act.put, List.getElem_toArray, List.getElem_cons_zero, List.getElem_cons_succ, List.setIfInBounds_toArray, List.set_cons_zero, List.set_cons_succ]
            refine wpAnyH_ready (rs := [15]) (by kernel_rfl) (by simp) ?_
            refine AllReadyH.cons rfl (fun K2 hK2 => ?_) AllReadyH.nil
            go_simp
            refine hK2.out _ _ ⟨cell_al hH.1, cell_al hH.2.1, cell_al hH.2.2⟩ (fun hHx => ?_)
            clear hK2 K2
            try simp only [Act.put, List.getElem_toArray, List.getElem_cons_zero, List.getElem_cons_succ, List.setIfInBounds_toArray, List.set_cons_zero, List.set_cons_succ]
            refine wpAnyH_take (i := 16) (v := ?vn3516) rfl (by kernel_rfl) (by kernel_rfl) (by kernel_rfl) (fun _ _ _ h => h) (Or.inl ⟨by rfl, ?hn3516⟩) (by assumption) ?rn3516
            case hn3516 => intro w hSw; (try dsimp only at hSw); go_simp; (try with_reducible rfl)
            simp only [Act.put, List.getElem_toArray, List.getElem_cons_zero, List.getElem_cons_succ, List.setIfInBounds_toArray, List.set_cons_zero, List.set_cons_succ]
            refine wpAnyH_done (by kernel_rfl) ?_ _
            clear hHx
            go_wp2_with fail
            go_meet
            refine ⟨u4.heap.size, rfl, by simp, by omega, pstart hrl (rowIs_below hrh hb4 (by omega)) (((hN0.inR.below hb2 (by omega)).below hb3 (by omega)).below hb4 (by omega)) ((hN1.inR.below hb3 (by omega)).below hb4 (by omega)) (by omega) (by omega) (by omega) (by omega) (by omega) (by omega) (by omega) (by omega) (by omega) (by omega) (by omega), hB4.alloc (by omega) _, hKu4.alloc _⟩
  case rest =>
    obtain ⟨S, rfl, hS1, hBS, hM, hBw, hK⟩ := hcut
    have hslt : S < wc.heap.size := by omega
    have hS2 : S ≠ w.heap.size + 1 := by omega
    go_upto_region 9 with (go_at_call 27; refine (HRUN.out _ hBw _ hS1 hBS hM).mono ?_; rintro e w5 ⟨rfl, hM5, hB5⟩)
    obtain ⟨own5, f5, vl, vh, vi0, vi1, vc, g0, g1, h5⟩ := hM5
    obtain ⟨Al, nl, cl, rfl⟩ := h5.ol.isSlice
    obtain ⟨Ah, nh, ch, rfl⟩ := h5.oh.isSlice
    have c0 := h5.blk.cell (i := 0) (by decide)
    rw [h5.fs.en] at c0
    have c1 := h5.clw
    have c2 := h5.chg
    have c3 := h5.cu0
    have c4 := h5.cu1
    have c5 := h5.blk.cell (i := 5) (by decide)
    rw [h5.fs.st] at c5
    have c15 := h5.cw0
    have c16 := h5.cw1
    have hK5 : Blk w5 (w.heap.size + 1) #[.int .i64 0, .slice none 0 0, .slice none 0 0, .int .i64 0, .int .i64 0, .int .i64 0] 34 := (hB5.block (w.heap.size + 1) (by omega)).trans hK
    have hs5 := h5.lt
    have hne : w.heap.size + 1 ≠ S := by omega
    have hBu : Below w.heap.size w w5.drew := (hBw.trans (hB5.mono (by omega))).drew
    refine wp_region_held_drew (S := fun w' => w'.cell? ⟨S, 0, none⟩ = some (.int .i64 R.1) ∧ w'.cell? ⟨S, 1, none⟩ = some (.slice Al nl cl) ∧ w'.cell? ⟨S, 2, none⟩ = some (.slice Ah nh ch) ∧ w'.cell? ⟨S, 3, none⟩ = some (.int .i64 R.2.2.u0) ∧ w'.cell? ⟨S, 4, none⟩ = some (.int .i64 R.2.2.u1) ∧ w'.cell? ⟨S, 5, none⟩ = some (.int .i64 R.2.1) ∧ w'.cell? ⟨S, 15, none⟩ = some (.slice (some ⟨g0, 0, none⟩) R.2.2.lo.length R.2.2.lo.length) ∧ w'.cell? ⟨S, 16, none⟩ = some (.slice (some ⟨g1, 0, none⟩) R.2.2.hi.length R.2.2.hi.length)) mw.mixed ⟨c0, c1, c2, c3, c4, c5, c15, c16⟩ (fun hH => ?_)
    obtain ⟨u0, hu0⟩ : ∃ u, w5.drew = u := ⟨_, rfl⟩
    have hK5 : Blk w5.drew (w.heap.size + 1) #[.int .i64 0, .slice none 0 0, .slice none 0 0, .int .i64 0, .int .i64 0, .int .i64 0] 34 := hK5
    have hC5 : Chg (fun i => i = w.heap.size + 1) w5 w5.drew := (Chg.refl _ _).drew
    rw [hu0] at hH hK5 hC5 hBu ⊢
    clear hu0 c0 c1 c2 c3 c4 c5 c15 c16
    have hKc := hK5.cell
    have hKf := hK5.frozen
    have hKl := hK5.lt
    refine wpAnyH_take (i := 0) (v := ?vb0) rfl (by kernel_rfl) (by kernel_rfl) (by kernel_rfl) (fun _ _ _ h => h) (Or.inl ⟨by rfl, ?hb0⟩) (by assumption) ?rb0
    case hb0 => intro w hSw; (try dsimp only at hSw); go_simp; (try with_reducible rfl)
    simp only [Act.put, List.getElem_toArray, List.getElem_cons_zero, List.setIfInBounds_toArray, List.set_cons_zero, List.set_cons_succ]
    refine wpAnyH_take (i := 1) (v := ?vb1) rfl (by kernel_rfl) (by kernel_rfl) (by kernel_rfl) (fun _ _ _ h => h) (Or.inl ⟨by rfl, ?hb1⟩) (by assumption) ?rb1
    case hb1 => intro w hSw; (try dsimp only at hSw); go_simp; (try with_reducible rfl)
    simp only [Act.put, List.getElem_toArray, List.getElem_cons_zero, List.getElem_cons_succ, List.setIfInBounds_toArray, List.set_cons_zero, List.set_cons_succ]
    refine wpAnyH_take (i := 2) (v := ?vb2) rfl (by kernel_rfl) (by kernel_rfl) (by kernel_rfl) (fun _ _ _ h => h) (Or.inl ⟨by rfl, ?hb2⟩) (by assumption) ?rb2
    case hb2 => intro w hSw; (try dsimp only at hSw); go_simp; (try with_reducible rfl)
    simp only [Act.put, List.getElem_toArray, List.getElem_cons_zero, List.getElem_cons_succ, List.setIfInBounds_toArray, List.set_cons_zero, List.set_cons_succ]
    refine wpAnyH_take (i := 3) (v := ?vb3) rfl (by kernel_rfl) (by kernel_rfl) (by kernel_rfl) (fun _ _ _ h => h) (Or.inl ⟨by rfl, ?hb3⟩) (by assumption) ?rb3
    case hb3 => intro w hSw; (try dsimp only at hSw); go_simp; (try with_reducible rfl)
    simp only [Act.put, List.getElem_toArray, List.getElem_cons_zero, List.getElem_cons_succ, List.setIfInBounds_toArray, List.set_cons_zero, List.set_cons_succ]
    refine wpAnyH_take (i := 4) (v := ?vb4) rfl (by kernel_rfl) (by kernel_rfl) (by kernel_rfl) (fun _ _ _ h => h) (Or.inl ⟨by rfl, ?hb4⟩) (by assumption) ?rb4
    case hb4 => intro w hSw; (try dsimp only at hSw); go_simp; (try with_reducible rfl)
    simp only [Act.put, List.getElem_toArray, List.getElem_cons_zero, List.getElem_cons_succ, List.setIfInBounds_toArray, List.set_cons_zero, List.set_cons_succ]
    refine wpAnyH_take (i := 5) (v := ?vb5) rfl (by kernel_rfl) (by kernel_rfl) (by kernel_rfl) (fun _ _ _ h => h) (Or.inl ⟨by rfl, ?hb5⟩) (by assumption) ?rb5
    case hb5 => intro w hSw; (try dsimp only at hSw); go_simp; (try with_reducible rfl)
    simp only [Act.put, List.getElem_toArray, List.getElem_cons_zero, List.getElem_cons_succ, List.setIfInBounds_toArray, List.set_cons_zero, List.set_cons_succ]
    refine wpAnyH_take (i := 6) (v := ?vb6) rfl (by kernel_rfl) (by kernel_rfl) (by kernel_rfl) (fun _ _ _ h => h) (Or.inl ⟨by rfl, ?hb6⟩) (by assumption) ?rb6
    case hb6 => intro w hSw; (try dsimp only at hSw); go_simp; (try with_reducible rfl)
    simp only [Act.put, List.getElem_toArray, List.getElem_cons_zero, List.getElem_cons_succ, List.setIfInBounds_toArray, List.set_cons_zero, List.set_cons_succ]
    refine wpAnyH_take (i := 7) (v := ?vb7) rfl (by kernel_rfl) (by kernel_rfl) (by kernel_rfl) (fun _ _ _ h => h) (Or.inl ⟨by rfl, ?hb7⟩) (by assumption) ?rb7
    case hb7 => intro w hSw; (try dsimp only at hSw); go_simp; (try with_reducible rfl)
    simp only [Act.put, List.getElem_toArray, List.getElem_cons_zero, List.getElem_cons_succ, List.setIfInBounds_toArray, List.set_cons_zero, List.set_cons_succ]
    refine wpAnyH_take (i := 8) (v := ?vb8) rfl (by kernel_rfl) (by kernel_rfl) (by kernel_rfl) (fun _ _ _ h => h) (Or.inl ⟨by rfl, ?hb8⟩) (by assumption) ?rb8
    case hb8 => intro w hSw; (try dsimp only at hSw); go_simp; (try with_reducible rfl)
    simp only [Act.put, List.getElem_toArray, List.getElem_cons_zero, List.getElem_cons_succ, List.setIfInBounds_toArray, List.set_cons_zero, List.set_cons_succ]
    refine wpAnyH_take (i := 9) (v := ?vb9) rfl (by kernel_rfl) (by kernel_rfl) (by kernel_rfl) (fun _ _ _ h => h) (Or.inl ⟨by rfl, ?hb9⟩) (by assumption) ?rb9
    case hb9 => intro w hSw; (try dsimp only at hSw); go_simp; (try with_reducible rfl)
    simp only [Act.put, List.getElem_toArray, List.getElem_cons_zero, List.getElem_cons_succ, List.setIfInBounds_toArray, List.set_cons_zero, List.set_cons_succ]
    refine wpAnyH_take (i := 10) (v := ?vb10) rfl (by kernel_rfl) (by kernel_rfl) (by kernel_rfl) (fun _ _ _ h => h) (Or.inl ⟨by rfl, ?hb10⟩) (by assumption) ?rb10
    case hb10 => intro w hSw; (try dsimp only at hSw); go_simp; (try with_reducible rfl)
    simp only [Act.put, List.getElem_toArray, List.getElem_cons_zero, List.getElem_cons_succ, List.setIfInBounds_toArray, List.set_cons_zero, List.set_cons_succ]
    refine wpAnyH_take (i := 11) (v := ?vb11) rfl (by kernel_rfl) (by kernel_rfl) (by kernel_rfl) (fun _ _ _ h => h) (Or.inl ⟨by rfl, ?hb11⟩) (by assumption) ?rb11
    case hb11 => intro w hSw; (try dsimp only at hSw); go_simp; (try with_reducible rfl)
    simp only [Act.put, List.getElem_toArray, List.getElem_cons_zero, List.getElem_cons_succ, List.setIfInBounds_toArray, List.set_cons_zero, List.set_cons_succ]
    refine wpAnyH_take (i := 12) (v := ?vb12) rfl (by kernel_rfl) (by kernel_rfl) (by kernel_rfl) (fun _ _ _ h => h) (Or.inl ⟨by rfl, ?hb12⟩) (by assumption) ?rb12
    case hb12 => intro w hSw; (try dsimp only at hSw); go_simp; (try with_reducible rfl)
    simp only [Act.put, List.getElem_toArray, List.getElem_cons_zero, List.getElem_cons_succ, List.setIfInBounds_toArray, List.set_cons_zero, List.set_cons_succ]
    refine wpAnyH_take (i := 13) (v := ?vb13) rfl (by kernel_rfl) (by kernel_rfl) (by kernel_rfl) (fun _ _ _ h => h) (Or.inl ⟨by rfl, ?hb13⟩) (by assumption) ?rb13
    case hb13 => intro w hSw; (try dsimp only at hSw); go_simp; (try with_reducible rfl)
    simp only [Act.put, List.getElem_toArray, List.getElem_cons_zero, List.getElem_cons_succ, List.setIfInBounds_toArray, List.set_cons_zero, List.set_cons_succ]
    refine wpAnyH_ready (rs := [14, 15]) (by kernel_rfl) (by simp) ?_
    refine AllReadyH.cons rfl (fun K2 hK2 => ?_) (AllReadyH.cons rfl (fun K2 hK2 => ?_) AllReadyH.nil)
    · go_simp
      refine hK2.out _ _ ⟨cell_al hH.1, cell_al hH.2.1, cell_al hH.2.2.1, cell_al hH.2.2.2.1, cell_al hH.2.2.2.2.1, cell_al hH.2.2.2.2.2.1, cell_al hH.2.2.2.2.2.2.1, cell_al hH.2.2.2.2.2.2.2⟩ (fun hHx => ?_)
      clear hK2 K2
      try simp only [Act.put, List.getElem_toArray, List.getElem_cons_zero, List.getElem_cons_succ, List.setIfInBounds_toArray, List.set_cons_zero, List.set_cons_succ]
      have hK6 := hK5.alloc (.cells #[.slice (some ⟨g0, 0, none⟩) R.2.2.lo.length R.2.2.lo.length, .slice (some ⟨g1, 0, none⟩) R.2.2.hi.length R.2.2.hi.length] 31)
      have hKc6 := hK6.cell
      have hKf6 := hK6.frozen
      have hKl6 := hK6.lt
      refine wpAnyH_ready (rs := [15]) (by kernel_rfl) (by simp) ?_
      refine AllReadyH.cons rfl (fun K2 hK2 => ?_) AllReadyH.nil
      go_simp
      refine hK2.out _ _ ⟨cell_al (far6 hne hH.1), cell_al (far6 hne hH.2.1), cell_al (far6 hne hH.2.2.1), cell_al (far6 hne hH.2.2.2.1), cell_al (far6 hne hH.2.2.2.2.1), cell_al (far6 hne hH.2.2.2.2.2.1), cell_al (far6 hne hH.2.2.2.2.2.2.1), cell_al (far6 hne hH.2.2.2.2.2.2.2)⟩ (fun hHy => ?_)
      clear hK2 K2
      try simp only [Act.put, List.getElem_toArray, List.getElem_cons_zero, List.getElem_cons_succ, List.setIfInBounds_toArray, List.set_cons_zero, List.set_cons_succ]
      refine wpAnyH_take (i := 16) (v := ?vc16) rfl (by kernel_rfl) (by kernel_rfl) (by kernel_rfl) (fun _ _ _ h => h) (Or.inl ⟨by rfl, ?hc16⟩) (by assumption) ?rc16
      case hc16 => intro w hSw; (try dsimp only at hSw); go_simp; (try with_reducible rfl)
      simp only [Act.put, List.getElem_toArray, List.getElem_cons_zero, List.getElem_cons_succ, List.setIfInBounds_toArray, List.set_cons_zero, List.set_cons_succ]
      refine wpAnyH_take (i := 17) (v := ?vc17) rfl (by kernel_rfl) (by kernel_rfl) (by kernel_rfl) (fun _ _ _ h => h) (Or.inl ⟨by rfl, ?hc17⟩) (by assumption) ?rc17
      case hc17 => intro w hSw; (try dsimp only at hSw); go_simp; (try with_reducible rfl)
      simp only [Act.put, List.getElem_toArray, List.getElem_cons_zero, List.getElem_cons_succ, List.setIfInBounds_toArray, List.set_cons_zero, List.set_cons_succ]
      refine wpAnyH_done (by kernel_rfl) ?_ _
      go_wp2_with fail
      refine bodyPost_ret (results_cell3 rfl _ _ rfl (blk6 hK5) Try.underlying34 rfl (by kernel_rfl)) rfl ?_
      exact ⟨_, _, _, _, _, rfl, made6 0, made6 1, (out_inR h5.ol).keep (chg6 hC5 rfl) (fun g h _ => by omega), (out_inR h5.oh).keep (chg6 hC5 rfl) (fun g h _ => by omega), (words_inR h5.lo).keep (chg6 hC5 rfl) (fun g h _ => by omega), (words_inR h5.hi).keep (chg6 hC5 rfl) (fun g h _ => by omega), below6 hBu (by omega) (by omega)⟩
    · go_simp
      refine hK2.out _ _ ⟨far6 hne hH.1, far6 hne hH.2.1, far6 hne hH.2.2.1, far6 hne hH.2.2.2.1, far6 hne hH.2.2.2.2.1, far6 hne hH.2.2.2.2.2.1, far6 hne hH.2.2.2.2.2.2.1, far6 hne hH.2.2.2.2.2.2.2⟩ (fun hHy => ?_)
      clear hK2 K2
      try simp only [Act.put, List.getElem_toArray, List.getElem_cons_zero, List.getElem_cons_succ, List.setIfInBounds_toArray, List.set_cons_zero, List.set_cons_succ]
      refine wpAnyH_ready (rs := [14]) (by kernel_rfl) (by simp) ?_
      refine AllReadyH.cons rfl (fun K2 hK2 => ?_) AllReadyH.nil
      go_simp
      refine hK2.out _ _ ⟨cell_al hHy.1, cell_al hHy.2.1, cell_al hHy.2.2.1, cell_al hHy.2.2.2.1, cell_al hHy.2.2.2.2.1, cell_al hHy.2.2.2.2.2.1, cell_al hHy.2.2.2.2.2.2.1, cell_al hHy.2.2.2.2.2.2.2⟩ (fun hHz => ?_)
      clear hK2 K2
      try simp only [Act.put, List.getElem_toArray, List.getElem_cons_zero, List.getElem_cons_succ, List.setIfInBounds_toArray, List.set_cons_zero, List.set_cons_succ]
      refine wpAnyH_take (i := 16) (v := ?vd16) rfl (by kernel_rfl) (by kernel_rfl) (by kernel_rfl) (fun _ _ _ h => h) (Or.inl ⟨by rfl, ?hd16⟩) (by assumption) ?rd16
      case hd16 => intro w hSw; (try dsimp only at hSw); go_simp; (try with_reducible rfl)
      simp only [Act.put, List.getElem_toArray, List.getElem_cons_zero, List.getElem_cons_succ, List.setIfInBounds_toArray, List.set_cons_zero, List.set_cons_succ]
      refine wpAnyH_take (i := 17) (v := ?vd17) rfl (by kernel_rfl) (by kernel_rfl) (by kernel_rfl) (fun _ _ _ h => h) (Or.inl ⟨by rfl, ?hd17⟩) (by assumption) ?rd17
      case hd17 => intro w hSw; (try dsimp only at hSw); go_simp; (try with_reducible rfl)
      simp only [Act.put, List.getElem_toArray, List.getElem_cons_zero, List.getElem_cons_succ, List.setIfInBounds_toArray, List.set_cons_zero, List.set_cons_succ]
      refine wpAnyH_done (by kernel_rfl) ?_ _
      go_wp2_with fail
      refine bodyPost_ret (results_cell3 rfl _ _ rfl (blk6 hK5) Try.underlying34 rfl (by kernel_rfl)) rfl ?_
      exact ⟨_, _, _, _, _, rfl, made6 0, made6 1, (out_inR h5.ol).keep (chg6 hC5 rfl) (fun g h _ => by omega), (out_inR h5.oh).keep (chg6 hC5 rfl) (fun g h _ => by omega), (words_inR h5.lo).keep (chg6 hC5 rfl) (fun g h _ => by omega), (words_inR h5.hi).keep (chg6 hC5 rfl) (fun g h _ => by omega), below6 hBu (by omega) (by omega)⟩
end mst
end Go.Proofs.Ytpcihajmcejliaa
