/- The walks of the reference's fields and Order of chapter 8: whether an order may be. -/
import Derived.Test.YtpcihajmcejliabGreatDoorMachMay
namespace Go.Proofs.YtpcihajmcejliabGreatDoor
open Go.RowKit
namespace mof
def fieldsF (op : Int) : Int × Bool × Bool :=
  if 20 < op ∧ op ≤ 29 then (3, false, true)
  else if op = 12 ∨ op = 17 then (0, false, true)
  else if op = 8 ∨ op = 11 then (0, true, true)
  else if op = 13 ∨ op = 14 ∨ op = 15 ∨ op = 16 then (1, false, true)
  else if op = 1 ∨ op = 9 ∨ op = 10 then (1, true, true)
  else if op = 2 then (2, false, true)
  else if op = 3 ∨ op = 4 ∨ op = 5 ∨ op = 6 ∨ op = 7 then (2, true, true)
  else (0, false, false)
def F3 (s : Int × Bool × Bool) (w : World) (e : Ending) (w' : World) : Prop := e = .returned (.tuple #[.int .i64 s.1, .bool s.2.1, .bool s.2.2]) ∧ w = w'
theorem f3 {s : Int × Bool × Bool} {w : World} {a : Int} {x y : Bool} (h : s = (a, x, y)) : F3 s w (.returned (.tuple #[.int .i64 a, .bool x, .bool y])) w := by
  subst h; exact ⟨rfl, rfl⟩
theorem fields_any (op : Int) (w : World) : Calls Tryz.prog 118 #[.int .i64 op] w (F3 (fieldsF op) w) := by
  go_enter Tryz.func118, Tryz.ntmps118
  go_wp2
  all_goals go_ret3
  all_goals refine f3 ?_
  all_goals go_light
  all_goals try simp only [beq_iff_eq, beq_eq_false_iff_ne] at *
  all_goals (unfold fieldsF; repeat (first | rfl | rw [if_pos (by omega)] | rw [if_neg (by omega)]))
/-- the j-th register's field, where so many are named -/
def okR (n : Int) (j : Nat) (a b c : Int) : Bool :=
  let r := if j = 0 then a else if j = 1 then b else c
  if (j : Int) < n then decide (0 ≤ r) && decide (r < 8) else r == 0
theorem shape_fields (op : Int) : (fieldsF op).2.2 = (shapeF op).2.2.2.2 ∧ ((shapeF op).2.2.2.2 = true → (shapeF op).1 = decide (0 < (fieldsF op).1) ∧ (shapeF op).2.1 = decide (1 < (fieldsF op).1) ∧
    (shapeF op).2.2.1 = decide (2 < (fieldsF op).1) ∧ (shapeF op).2.2.2.1 = (fieldsF op).2.1) := by
  by_cases h : 1 ≤ op ∧ op ≤ 17
  · have : op = 1 ∨ op = 2 ∨ op = 3 ∨ op = 4 ∨ op = 5 ∨ op = 6 ∨ op = 7 ∨ op = 8 ∨ op = 9 ∨ op = 10 ∨ op = 11 ∨ op = 12 ∨ op = 13 ∨ op = 14 ∨ op = 15 ∨ op = 16 ∨ op = 17 := by omega
    rcases this with rfl | rfl | rfl | rfl | rfl | rfl | rfl | rfl | rfl | rfl | rfl | rfl | rfl | rfl | rfl | rfl | rfl <;> decide
  · have hs : shapeF op = (true, true, true, false, decide (20 < op ∧ op ≤ 29)) := by
      unfold shapeF
      repeat rw [if_neg (by omega)]
    by_cases h2 : 20 < op ∧ op ≤ 29
    · have hf : fieldsF op = (3, false, true) := by unfold fieldsF; rw [if_pos h2]
      rw [hs, hf]; simp [h2]
    · have hf : fieldsF op = (0, false, false) := by unfold fieldsF; repeat rw [if_neg (by omega)]
      rw [hs, hf]; simp; omega
theorem okR_reg (n : Int) (j : Nat) (a b c : Int) : okR n j a b c = regB (decide ((j : Int) < n)) (if j = 0 then a else if j = 1 then b else c) := by
  unfold okR regB
  simp only []
  generalize (if j = 0 then a else if j = 1 then b else c) = r
  by_cases h : (j : Int) < n
  · simp only [h, if_true, decide_true, Bool.true_and]
    by_cases h0 : r = 0
    · subst h0; decide
    · have : (0 ≤ r) = (0 < r) := by simp only [eq_iff_iff]; omega
      simp [h0, this]
  · simp [h]
theorem order_okR (i : Ins) (many : Int) : orderB i many = ((fieldsF i.op).2.2 && okR (fieldsF i.op).1 0 i.a i.b i.c && okR (fieldsF i.op).1 1 i.a i.b i.c && okR (fieldsF i.op).1 2 i.a i.b i.c &&
    ((fieldsF i.op).2.1 || i.n == 0) && lastB i.op i.n many) := by
  obtain ⟨h1, h2⟩ := shape_fields i.op
  unfold orderB
  rw [h1]
  cases ho : (shapeF i.op).2.2.2.2
  · simp
  · obtain ⟨ha, hb, hc, hn⟩ := h2 ho
    rw [ha, hb, hc, hn, okR_reg, okR_reg, okR_reg]
    simp
def regCells (a b c : Int) (j : Nat) : Int := if j = 0 then a else if j = 1 then b else c
theorem okR_cases (cnt : Int) (k : Nat) (a b c : Int) : (okR cnt k a b c = false → ((k : Int) < cnt ∧ regCells a b c k < 0) ∨ ((k : Int) < cnt ∧ 8 ≤ regCells a b c k) ∨ (cnt ≤ k ∧ (regCells a b c k == 0) = false)) ∧
    (okR cnt k a b c = true → ((k : Int) < cnt ∧ 0 ≤ regCells a b c k ∧ regCells a b c k < 8) ∨ (cnt ≤ k ∧ (regCells a b c k == 0) = true)) := by
  rw [show okR cnt k a b c = (if (k : Int) < cnt then decide (0 ≤ regCells a b c k) && decide (regCells a b c k < 8) else regCells a b c k == 0) from rfl]
  generalize regCells a b c k = r
  by_cases h : (k : Int) < cnt
  · simp [h]; omega
  · simp [h]; omega
theorem okR_false (cnt : Int) (k : Nat) (a b c : Int) (x y z : Bool) (hk : k < 3) (h : okR cnt k a b c = false) : (true && okR cnt 0 a b c && okR cnt 1 a b c && okR cnt 2 a b c && (x || y) && z) = false := by
  have : k = 0 ∨ k = 1 ∨ k = 2 := by omega
  rcases this with rfl | rfl | rfl <;> simp [h]
theorem okR_next (cnt : Int) (k : Nat) (a b c : Int) (h : ∀ j, j < k → okR cnt j a b c = true) (hk : okR cnt k a b c = true) : ∀ j, j < k + 1 → okR cnt j a b c = true := by
  intro j hj
  by_cases e : j = k
  · rw [e]; exact hk
  · exact h j (by omega)
theorem reg_cell (w : World) (a b c : Int) (j : Nat) (hj : j < 3) : (w.alloc (.cells #[.int .i64 a, .int .i64 b, .int .i64 c] 3)).cell? ⟨w.heap.size, j, none⟩ = some (.int .i64 (regCells a b c j)) := by
  rw [show (w.alloc (.cells #[.int .i64 a, .int .i64 b, .int .i64 c] 3)).cell? ⟨w.heap.size, j, none⟩ = #[Value.int .i64 a, .int .i64 b, .int .i64 c][j]? from cell_of_row _ _ _ _ _ _ (heap_alloc_new w _)]
  have : j = 0 ∨ j = 1 ∨ j = 2 := by omega
  rcases this with rfl | rfl | rfl <;> rfl
set_option maxRecDepth 100000 in
set_option maxHeartbeats 4000000 in
theorem rorder_any (i : Ins) (many : Int) (w : World) :
    Calls Tryz.prog 48 #[.agg #[.int .i64 i.op, .int .i64 i.a, .int .i64 i.b, .int .i64 i.c, .int .i64 i.n], .int .i64 many] w (OrdPost (orderB i many) w) := by
  have hO1 := order_okR i many
  obtain ⟨op, a, b, c, n⟩ := i
  obtain ⟨⟨cnt, has, ok⟩, hs⟩ : ∃ s, fieldsF op = s := ⟨_, rfl⟩
  simp only [hs] at hO1
  generalize orderB ⟨op, a, b, c, n⟩ many = R at hO1 ⊢
  have hO := Lib.hid hO1
  have hS := Lib.hid hs
  clear hs hO1
  go_enter Tryz.func48, Tryz.ntmps48
  go_wp2_with fail
  refine (fields_any _ _).mono ?_
  rintro e w1 ⟨rfl, rfl⟩
  rw [hS.out]
  cases ok
  · go_wp2_with fail
    go_ret
    exact ⟨ret_bool (by rw [hO.out]; simp), (Below.refl _ _).alloc (Nat.le_refl _) _⟩
  go_wp2_with fail
  have hcell := reg_cell (w.alloc (.cells #[.int .i64 op, .int .i64 a, .int .i64 b, .int .i64 c, .int .i64 n] 98)) a b c
  have hc0 := World.cell?_alloc_lt (w.alloc (.cells #[.int .i64 op, .int .i64 a, .int .i64 b, .int .i64 c, .int .i64 n] 98)) (.cells #[.int .i64 a, .int .i64 b, .int .i64 c] 3) ⟨w.heap.size, 0, none⟩ (by simp)
  have hc4 := World.cell?_alloc_lt (w.alloc (.cells #[.int .i64 op, .int .i64 a, .int .i64 b, .int .i64 c, .int .i64 n] 98)) (.cells #[.int .i64 a, .int .i64 b, .int .i64 c] 3) ⟨w.heap.size, 4, none⟩ (by simp)
  rw [cell_of_row _ _ _ _ _ _ (heap_alloc_new w _)] at hc0 hc4
  have hB : Below w.heap.size w ((w.alloc (.cells #[.int .i64 op, .int .i64 a, .int .i64 b, .int .i64 c, .int .i64 n] 98)).alloc (.cells #[.int .i64 a, .int .i64 b, .int .i64 c] 3)) :=
    ((Below.refl _ _).alloc (Nat.le_refl _) _).alloc (by simp) _
  simp only [World.size_alloc] at hcell
  generalize (w.alloc (.cells #[.int .i64 op, .int .i64 a, .int .i64 b, .int .i64 c, .int .i64 n] 98)).alloc (.cells #[.int .i64 a, .int .i64 b, .int .i64 c] 3) = w2 at *
  go_loop [9] (fun i => ∃ k : Nat, k ≤ 3 ∧ i = .int .i64 k ∧ Hid (∀ j, j < k → okR cnt j a b c = true)) (fun i => 3 - (intOf i).toNat)
  case atStart => exact ⟨0, by omega, rfl, fun j hj => absurd hj (by omega)⟩
  case round =>
    obtain ⟨k, hk, rfl, hrel⟩ := hrel
    by_cases hlt : k < 3
    · have hck := hcell k hlt
      clear hcell
      have hk2 : (k : Int) < 3 := by omega
      have hK := okR_cases cnt k a b c
      generalize regCells a b c k = r at *
      cases hkk : okR cnt k a b c
      · have hfin := Lib.hid (okR_false cnt k a b c has (n == 0) (lastB op n many) hlt hkk)
        rw [hkk] at hK
        clear hkk
        rcases hK.1 rfl with ⟨g1, g2⟩ | ⟨g1, g2⟩ | ⟨g1, g2⟩
        all_goals
          clear hK
          go_wp2_with fail
          go_ret
          exact ⟨ret_bool (by rw [hO.out, hfin.out]), hB⟩
      · have hnext := Lib.hid (okR_next cnt k a b c hrel.out hkk)
        rw [hkk] at hK
        clear hkk
        rcases hK.2 rfl with ⟨g1, g2, g3⟩ | ⟨g1, g2⟩
        all_goals
          clear hK
          go_wp2_with fail
          go_round
          case rel => exact ⟨k + 1, by omega, by go_num, hnext⟩
          case measure => simp [intOf]; omega
    · obtain rfl : k = 3 := by omega
      have h0 := hrel.out 0 (by omega)
      have h1 := hrel.out 1 (by omega)
      have h2 := hrel.out 2 (by omega)
      rw [h0, h1, h2] at hO
      clear h0 h1 h2 hrel hcell
      go_wp2_with fail
      all_goals go_ret
      all_goals refine ⟨?_, hB⟩
      all_goals go_light
      all_goals refine ret_bool ?_
      all_goals rw [hO.out]
      all_goals clear hO hB
      all_goals try simp only [beq_iff_eq, beq_eq_false_iff_ne, bne_iff_ne, bne_eq_false_iff_eq, Bool.not_eq_true] at *
      all_goals (first | (simp [*]; done) | ((first | rw [lastB_j (by omega)] | rw [lastB_c (by omega)] | rw [lastB_e (by omega)]); first | (simp [*]; done) | (simp [*]; omega)))
end mof
end Go.Proofs.YtpcihajmcejliabGreatDoor
