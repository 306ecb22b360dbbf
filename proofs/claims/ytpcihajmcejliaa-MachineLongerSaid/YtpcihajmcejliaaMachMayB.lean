/- Plain words for chapter 8: orders, images, and what a machine does. No program here. The walks of chapter 8's look at orders, of the program and of the reference: whether an order may be, among so many. The walks of the reference's fields and Order of chapter 8: whether an order may be. The walks of machine.May and of the reference's: whether an image may be. -/
import Derived.Test.YtpcihajmcejliaaNumDefs
import Derived.Test.YtpcihajmcejliaaProg
import Derived.Test.YtpcihajmcejliaaLib
namespace Go.Proofs.Ytpcihajmcejliaa
open Go.RowKit
/-- An order. -/
structure Ins where
  op : Int
  a : Int
  b : Int
  c : Int
  n : Int
/-- which fields an order has: A, B, C, N; is there such an order -/
def shapeF (op : Int) : Bool × Bool × Bool × Bool × Bool :=
  if op = 1 ∨ op = 9 ∨ op = 10 then (true, false, false, true, true)
  else if op = 2 then (true, true, false, false, true)
  else if op = 3 ∨ op = 4 ∨ op = 5 ∨ op = 6 ∨ op = 7 then (true, true, false, true, true)
  else if op = 8 ∨ op = 11 then (false, false, false, true, true)
  else if op = 13 ∨ op = 14 ∨ op = 15 ∨ op = 16 then (true, false, false, false, true)
  else if op = 12 ∨ op = 17 then (false, false, false, false, true)
  else (true, true, true, false, decide (20 < op ∧ op ≤ 29))
def regB (is : Bool) (n : Int) : Bool := n == 0 || (is && decide (0 < n) && decide (n < 8))
def lastB (op n many : Int) : Bool :=
  if op = 8 ∨ op = 9 ∨ op = 11 then decide (0 ≤ n) && decide (n < many)
  else if op = 10 then decide (1 ≤ n) && decide (n ≤ 64) else true
theorem lastB_j {op n many : Int} (h : op = 8 ∨ op = 9 ∨ op = 11) : lastB op n many = (decide (0 ≤ n) && decide (n < many)) := if_pos h
theorem lastB_c {op n many : Int} (h : op = 10) : lastB op n many = (decide (1 ≤ n) && decide (n ≤ 64)) := by unfold lastB; rw [if_neg (by omega), if_pos h]
theorem lastB_e {op n many : Int} (h : ¬ (op = 8 ∨ op = 9 ∨ op = 10 ∨ op = 11)) : lastB op n many = true := by unfold lastB; rw [if_neg (by omega), if_neg (by omega)]
def orderB (i : Ins) (many : Int) : Bool :=
  (shapeF i.op).2.2.2.2 && regB (shapeF i.op).1 i.a && regB (shapeF i.op).2.1 i.b && regB (shapeF i.op).2.2.1 i.c &&
    ((shapeF i.op).2.2.2.1 || i.n == 0) && lastB i.op i.n many
def mayB (code : List Ins) (lo hi : Int) : Bool :=
  decide (1 ≤ code.length) && decide (code.length ≤ 20000) && decide (0 ≤ lo) && decide (lo ≤ 20000) && decide (0 ≤ hi) && decide (hi ≤ 20000) && code.all (fun i => orderB i code.length)
end Go.Proofs.Ytpcihajmcejliaa
namespace Go.Proofs.Ytpcihajmcejliaa
open Go.RowKit
namespace mof
def OfPost (s : Bool × Bool × Bool × Bool × Bool) (w : World) (e : Ending) (w' : World) : Prop :=
  e = .returned (.tuple #[.agg #[.bool s.1, .bool s.2.1, .bool s.2.2.1, .bool s.2.2.2.1], .bool s.2.2.2.2]) ∧ Below w.heap.size w w'
theorem of_post {s : Bool × Bool × Bool × Bool × Bool} {w w' : World} {a b c n ok : Bool} (h : s = (a, b, c, n, ok)) (hb : Below w.heap.size w w') :
    OfPost s w (.returned (.tuple #[.agg #[.bool a, .bool b, .bool c, .bool n], .bool ok])) w' := by
  subst h; exact ⟨rfl, hb⟩
set_option maxHeartbeats 4000000 in
theorem of_any (op : Int) (w : World) : Calls Try.prog 30 #[.int .i64 op] w (OfPost (shapeF op) w) := by
  go_enter Try.func30, Try.ntmps30
  go_wp2
  all_goals go_light
  all_goals try simp only [beq_iff_eq, beq_eq_false_iff_ne] at *
  all_goals refine bodyPost_ret (v := .tuple #[.agg #[.bool _, .bool _, .bool _, .bool _], .bool _]) (by simp [results, Try.results30, go_sem]; exact ⟨⟨rfl, rfl, rfl, rfl⟩, rfl⟩) rfl (of_post ?_ ((Below.refl _ _).alloc (Nat.le_refl _) _))
  all_goals (unfold shapeF; repeat (first | rfl | rw [if_pos (by omega)] | rw [if_neg (by omega)]))
  all_goals (simp; try omega)
theorem reg_any (is : Bool) (n : Int) (w : World) : Calls Try.prog 31 #[.bool is, .int .i64 n] w fun e w' => e = .returned (.bool (regB is n)) ∧ w = w' := by
  go_enter Try.func31, Try.ntmps31
  go_wp2
  all_goals go_ret
  all_goals go_light
  all_goals refine ⟨ret_bool ?_, rfl⟩
  all_goals (simp_all [regB]; try omega)
def OrdPost (b : Bool) (w : World) (e : Ending) (w' : World) : Prop := e = .returned (.bool b) ∧ Below w.heap.size w w'
set_option maxRecDepth 100000 in
set_option maxHeartbeats 4000000 in
theorem order_any (i : Ins) (many : Int) (w : World) :
    Calls Try.prog 24 #[.agg #[.int .i64 i.op, .int .i64 i.a, .int .i64 i.b, .int .i64 i.c, .int .i64 i.n], .int .i64 many] w (OrdPost (orderB i many) w) := by
  obtain ⟨op, a, b, c, n⟩ := i
  obtain ⟨⟨sa, sb, sc, sn, ok⟩, hs⟩ : ∃ s, shapeF op = s := ⟨_, rfl⟩
  have hO := Lib.hid (show orderB ⟨op, a, b, c, n⟩ many = (ok && regB sa a && regB sb b && regB sc c && (sn || n == 0) && lastB op n many) by simp only [orderB, hs])
  have hS := Lib.hid hs
  clear hs
  go_enter Try.func24, Try.ntmps24
  go_wp2_with fail
  refine (of_any _ _).mono ?_
  rintro e w1 ⟨rfl, hb⟩
  rw [hS.out]
  have hB : Below w.heap.size w w1 := ((Below.refl _ _).alloc (Nat.le_refl _) _).trans (hb.mono (by simp))
  obtain ⟨hc, hf⟩ := bcell hb
  have hz : w.heap.size < w1.heap.size := by have := hb.size; simp at this; omega
  clear hb
  go_wp2_with (go_at_call 31; refine (reg_any _ _ _).mono ?_; rintro e w2 ⟨rfl, rfl⟩)
  all_goals go_ret
  all_goals refine ⟨?_, hB.alloc hB.size _⟩
  all_goals go_light
  all_goals clear hc hf hz hB hS
  all_goals refine ret_bool ?_
  all_goals rw [hO.out]
  all_goals clear hO
  all_goals simp only [beq_iff_eq, beq_eq_false_iff_ne, bne_iff_ne, bne_eq_false_iff_eq, Bool.not_eq_true] at *
  all_goals (first | (simp [*]; done) | ((first | rw [lastB_j (by omega)] | rw [lastB_c (by omega)] | rw [lastB_e (by omega)]); first | (simp [*]; done) | (simp [*]; omega)))
end mof
end Go.Proofs.Ytpcihajmcejliaa
namespace Go.Proofs.Ytpcihajmcejliaa
open Go.RowKit
namespace mof
def fieldsF (op : Int) : Int × Bool × Bool :=
  if 20 < op ∧ op ≤ 29 then (3, false, true)
  else if op = 12 ∨ op = 17 then (0, false, true)
  else if op = 8 ∨ op = 11 then (0, true, true)
  else if op = 13 ∨ op = 14 ∨ op = 15 ∨ op = 16 then (1, false, true)
  else if op = 1 ∨ op = 9 ∨ op = 10 then (1, true, true)
  else if op = 2 then (2, false, true)
  else if op = 3 ∨ op = 4 ∨ op = 5 ∨ op = 6 ∨ op = 7 then (2, true, true)
  else (0, false, false)
def F3 (s : Int × Bool × Bool) (w : World) (e : Ending) (w' : World) : Prop := e = .returned (.tuple #[.int .i64 s.1, .bool s.2.1, .bool s.2.2]) ∧ w = w'
theorem f3 {s : Int × Bool × Bool} {w : World} {a : Int} {x y : Bool} (h : s = (a, x, y)) : F3 s w (.returned (.tuple #[.int .i64 a, .bool x, .bool y])) w := by
  subst h; exact ⟨rfl, rfl⟩
theorem fields_any (op : Int) (w : World) : Calls Try.prog 32 #[.int .i64 op] w (F3 (fieldsF op) w) := by
  go_enter Try.func32, Try.ntmps32
  go_wp2
  all_goals go_ret3
  all_goals refine f3 ?_
  all_goals go_light
  all_goals try simp only [beq_iff_eq, beq_eq_false_iff_ne] at *
  all_goals (unfold fieldsF; repeat (first | rfl | rw [if_pos (by omega)] | rw [if_neg (by omega)]))
/-- the j-th register's field, where so many are named -/
def okR (n : Int) (j : Nat) (a b c : Int) : Bool :=
  let r := if j = 0 then a else if j = 1 then b else c
  if (j : Int) < n then decide (0 ≤ r) && decide (r < 8) else r == 0
theorem shape_fields (op : Int) : (fieldsF op).2.2 = (shapeF op).2.2.2.2 ∧ ((shapeF op).2.2.2.2 = true → (shapeF op).1 = decide (0 < (fieldsF op).1) ∧ (shapeF op).2.1 = decide (1 < (fieldsF op).1) ∧
    (shapeF op).2.2.1 = decide (2 < (fieldsF op).1) ∧ (shapeF op).2.2.2.1 = (fieldsF op).2.1) := by
  by_cases h : 1 ≤ op ∧ op ≤ 17
  · have : op = 1 ∨ op = 2 ∨ op = 3 ∨ op = 4 ∨ op = 5 ∨ op = 6 ∨ op = 7 ∨ op = 8 ∨ op = 9 ∨ op = 10 ∨ op = 11 ∨ op = 12 ∨ op = 13 ∨ op = 14 ∨ op = 15 ∨ op = 16 ∨ op = 17 := by omega
    rcases this with rfl | rfl | rfl | rfl | rfl | rfl | rfl | rfl | rfl | rfl | rfl | rfl | rfl | rfl | rfl | rfl | rfl <;> decide
  · have hs : shapeF op = (true, true, true, false, decide (20 < op ∧ op ≤ 29)) := by
      unfold shapeF
      repeat rw [if_neg (by omega)]
    by_cases h2 : 20 < op ∧ op ≤ 29
    · have hf : fieldsF op = (3, false, true) := by unfold fieldsF; rw [if_pos h2]
      rw [hs, hf]; simp [h2]
    · have hf : fieldsF op = (0, false, false) := by unfold fieldsF; repeat rw [if_neg (by omega)]
      rw [hs, hf]; simp; omega
theorem okR_reg (n : Int) (j : Nat) (a b c : Int) : okR n j a b c = regB (decide ((j : Int) < n)) (if j = 0 then a else if j = 1 then b else c) := by
  unfold okR regB
  simp only []
  generalize (if j = 0 then a else if j = 1 then b else c) = r
  by_cases h : (j : Int) < n
  · simp only [h, if_true, decide_true, Bool.true_and]
    by_cases h0 : r = 0
    · subst h0; decide
    · have : (0 ≤ r) = (0 < r) := by simp only [eq_iff_iff]; omega
      simp [h0, this]
  · simp [h]
theorem order_okR (i : Ins) (many : Int) : orderB i many = ((fieldsF i.op).2.2 && okR (fieldsF i.op).1 0 i.a i.b i.c && okR (fieldsF i.op).1 1 i.a i.b i.c && okR (fieldsF i.op).1 2 i.a i.b i.c &&
    ((fieldsF i.op).2.1 || i.n == 0) && lastB i.op i.n many) := by
  obtain ⟨h1, h2⟩ := shape_fields i.op
  unfold orderB
  rw [h1]
  cases ho : (shapeF i.op).2.2.2.2
  · simp
  · obtain ⟨ha, hb, hc, hn⟩ := h2 ho
    rw [ha, hb, hc, hn, okR_reg, okR_reg, okR_reg]
    simp
def regCells (a b c : Int) (j : Nat) : Int := if j = 0 then a else if j = 1 then b else c
theorem okR_cases (cnt : Int) (k : Nat) (a b c : Int) : (okR cnt k a b c = false → ((k : Int) < cnt ∧ regCells a b c k < 0) ∨ ((k : Int) < cnt ∧ 8 ≤ regCells a b c k) ∨ (cnt ≤ k ∧ (regCells a b c k == 0) = false)) ∧
    (okR cnt k a b c = true → ((k : Int) < cnt ∧ 0 ≤ regCells a b c k ∧ regCells a b c k < 8) ∨ (cnt ≤ k ∧ (regCells a b c k == 0) = true)) := by
  rw [show okR cnt k a b c = (if (k : Int) < cnt then decide (0 ≤ regCells a b c k) && decide (regCells a b c k < 8) else regCells a b c k == 0) from rfl]
  generalize regCells a b c k = r
  by_cases h : (k : Int) < cnt
  · simp [h]; omega
  · simp [h]; omega
theorem okR_false (cnt : Int) (k : Nat) (a b c : Int) (x y z : Bool) (hk : k < 3) (h : okR cnt k a b c = false) : (true && okR cnt 0 a b c && okR cnt 1 a b c && okR cnt 2 a b c && (x || y) && z) = false := by
  have : k = 0 ∨ k = 1 ∨ k = 2 := by omega
  rcases this with rfl | rfl | rfl <;> simp [h]
theorem okR_next (cnt : Int) (k : Nat) (a b c : Int) (h : ∀ j, j < k → okR cnt j a b c = true) (hk : okR cnt k a b c = true) : ∀ j, j < k + 1 → okR cnt j a b c = true := by
  intro j hj
  by_cases e : j = k
  · rw [e]; exact hk
  · exact h j (by omega)
theorem reg_cell (w : World) (a b c : Int) (j : Nat) (hj : j < 3) : (w.alloc (.cells #[.int .i64 a, .int .i64 b, .int .i64 c] 3)).cell? ⟨w.heap.size, j, none⟩ = some (.int .i64 (regCells a b c j)) := by
  rw [show (w.alloc (.cells #[.int .i64 a, .int .i64 b, .int .i64 c] 3)).cell? ⟨w.heap.size, j, none⟩ = #[Value.int .i64 a, .int .i64 b, .int .i64 c][j]? from cell_of_row _ _ _ _ _ _ (heap_alloc_new w _)]
  have : j = 0 ∨ j = 1 ∨ j = 2 := by omega
  rcases this with rfl | rfl | rfl <;> rfl
set_option maxRecDepth 100000 in
set_option maxHeartbeats 4000000 in
theorem rorder_any (i : Ins) (many : Int) (w : World) :
    Calls Try.prog 25 #[.agg #[.int .i64 i.op, .int .i64 i.a, .int .i64 i.b, .int .i64 i.c, .int .i64 i.n], .int .i64 many] w (OrdPost (orderB i many) w) := by
  have hO1 := order_okR i many
  obtain ⟨op, a, b, c, n⟩ := i
  obtain ⟨⟨cnt, has, ok⟩, hs⟩ : ∃ s, fieldsF op = s := ⟨_, rfl⟩
  simp only [hs] at hO1
  generalize orderB ⟨op, a, b, c, n⟩ many = R at hO1 ⊢
  have hO := Lib.hid hO1
  have hS := Lib.hid hs
  clear hs hO1
  go_enter Try.func25, Try.ntmps25
  go_wp2_with fail
  refine (fields_any _ _).mono ?_
  rintro e w1 ⟨rfl, rfl⟩
  rw [hS.out]
  cases ok
  · go_wp2_with fail
    go_ret
    exact ⟨ret_bool (by rw [hO.out]; simp), (Below.refl _ _).alloc (Nat.le_refl _) _⟩
  go_wp2_with fail
  have hcell := reg_cell (w.alloc (.cells #[.int .i64 op, .int .i64 a, .int .i64 b, .int .i64 c, .int .i64 n] 53)) a b c
  have hc0 := World.cell?_alloc_lt (w.alloc (.cells #[.int .i64 op, .int .i64 a, .int .i64 b, .int .i64 c, .int .i64 n] 53)) (.cells #[.int .i64 a, .int .i64 b, .int .i64 c] 3) ⟨w.heap.size, 0, none⟩ (by simp)
  have hc4 := World.cell?_alloc_lt (w.alloc (.cells #[.int .i64 op, .int .i64 a, .int .i64 b, .int .i64 c, .int .i64 n] 53)) (.cells #[.int .i64 a, .int .i64 b, .int .i64 c] 3) ⟨w.heap.size, 4, none⟩ (by simp)
  rw [cell_of_row _ _ _ _ _ _ (heap_alloc_new w _)] at hc0 hc4
  have hB : Below w.heap.size w ((w.alloc (.cells #[.int .i64 op, .int .i64 a, .int .i64 b, .int .i64 c, .int .i64 n] 53)).alloc (.cells #[.int .i64 a, .int .i64 b, .int .i64 c] 3)) :=
    ((Below.refl _ _).alloc (Nat.le_refl _) _).alloc (by simp) _
  simp only [World.size_alloc] at hcell
  generalize (w.alloc (.cells #[.int .i64 op, .int .i64 a, .int .i64 b, .int .i64 c, .int .i64 n] 53)).alloc (.cells #[.int .i64 a, .int .i64 b, .int .i64 c] 3) = w2 at *
  go_loop [9] (fun i => ∃ k : Nat, k ≤ 3 ∧ i = .int .i64 k ∧ Hid (∀ j, j < k → okR cnt j a b c = true)) (fun i => 3 - (intOf i).toNat)
  case atStart => exact ⟨0, by omega, rfl, fun j hj => absurd hj (by omega)⟩
  case round =>
    obtain ⟨k, hk, rfl, hrel⟩ := hrel
    by_cases hlt : k < 3
    · have hck := hcell k hlt
      clear hcell
      have hk2 : (k : Int) < 3 := by omega
      have hK := okR_cases cnt k a b c
      generalize regCells a b c k = r at *
      cases hkk : okR cnt k a b c
      · have hfin := Lib.hid (okR_false cnt k a b c has (n == 0) (lastB op n many) hlt hkk)
        rw [hkk] at hK
        clear hkk
        rcases hK.1 rfl with ⟨g1, g2⟩ | ⟨g1, g2⟩ | ⟨g1, g2⟩
        all_goals
          clear hK
          go_wp2_with fail
          go_ret
          exact ⟨ret_bool (by rw [hO.out, hfin.out]), hB⟩
      · have hnext := Lib.hid (okR_next cnt k a b c hrel.out hkk)
        rw [hkk] at hK
        clear hkk
        rcases hK.2 rfl with ⟨g1, g2, g3⟩ | ⟨g1, g2⟩
        all_goals
          clear hK
          go_wp2_with fail
          go_round
          case rel => exact ⟨k + 1, by omega, by go_num, hnext⟩
          case measure => simp [intOf]; omega
    · obtain rfl : k = 3 := by omega
      have h0 := hrel.out 0 (by omega)
      have h1 := hrel.out 1 (by omega)
      have h2 := hrel.out 2 (by omega)
      rw [h0, h1, h2] at hO
      clear h0 h1 h2 hrel hcell
      go_wp2_with fail
      all_goals go_ret
      all_goals refine ⟨?_, hB⟩
      all_goals go_light
      all_goals refine ret_bool ?_
      all_goals rw [hO.out]
      all_goals clear hO hB
      all_goals try simp only [beq_iff_eq, beq_eq_false_iff_ne, bne_iff_ne, bne_eq_false_iff_eq, Bool.not_eq_true] at *
      all_goals (first | (simp [*]; done) | ((first | rw [lastB_j (by omega)] | rw [lastB_c (by omega)] | rw [lastB_e (by omega)]); first | (simp [*]; done) | (simp [*]; omega)))
end mof
end Go.Proofs.Ytpcihajmcejliaa
namespace Go.Proofs.Ytpcihajmcejliaa
open Go.RowKit
/-- orders as they lie in memory, five cells each -/
def Orders (w : World) (b off : Nat) (code : List Ins) : Prop :=
  ∀ k (hk : k < code.length), w.cell? ⟨b, off + k * 5, none⟩ = some (.int .i64 code[k].op) ∧ w.cell? ⟨b, off + k * 5 + 1, none⟩ = some (.int .i64 code[k].a) ∧
    w.cell? ⟨b, off + k * 5 + 2, none⟩ = some (.int .i64 code[k].b) ∧ w.cell? ⟨b, off + k * 5 + 3, none⟩ = some (.int .i64 code[k].c) ∧ w.cell? ⟨b, off + k * 5 + 4, none⟩ = some (.int .i64 code[k].n)
theorem Orders.keep {w w' : World} {b off : Nat} {code : List Ins} (h : Orders w b off code) (hb : ∀ o, w'.cell? ⟨b, o, none⟩ = w.cell? ⟨b, o, none⟩) : Orders w' b off code := by
  intro k hk
  rw [hb, hb, hb, hb, hb]
  exact h k hk
theorem Orders.below {w w' : World} {b off B : Nat} {code : List Ins} (h : Orders w b off code) (hb : Below B w w') (hB : b < B) : Orders w' b off code :=
  h.keep fun _ => hb.cell hB
namespace mof
theorem mayB_head {code : List Ins} {lo hi : Int} {n : Nat} (hn : code.length = n) (h : ¬ (1 ≤ n ∧ n ≤ 20000 ∧ 0 ≤ lo ∧ lo ≤ 20000 ∧ 0 ≤ hi ∧ hi ≤ 20000)) : mayB code lo hi = false := by
  cases hm : mayB code lo hi
  · rfl
  · simp only [mayB, Bool.and_eq_true, decide_eq_true_eq, hn] at hm
    omega
theorem mayB_false {code : List Ins} {lo hi : Int} {n k : Nat} (hn : code.length = n) (hk : k < code.length) (h : orderB code[k] n = false) : mayB code lo hi = false := by
  have : code.all (fun i => orderB i code.length) = false := by
    rw [List.all_eq_false]
    exact ⟨code[k], List.getElem_mem hk, by rw [hn, h]; simp⟩
  rw [mayB, this, Bool.and_false]
theorem mayB_true {code : List Ins} {lo hi : Int} {n : Nat} (hn : code.length = n) (h : 1 ≤ n ∧ n ≤ 20000 ∧ 0 ≤ lo ∧ lo ≤ 20000 ∧ 0 ≤ hi ∧ hi ≤ 20000)
    (ha : ∀ j (hj : j < code.length), j < n → orderB code[j] n = true) : mayB code lo hi = true := by
  have : code.all (fun i => orderB i code.length) = true := by
    rw [List.all_eq_true]
    intro x hx
    obtain ⟨j, hj, rfl⟩ := List.getElem_of_mem hx
    rw [hn]
    exact ha j hj (by omega)
  rw [mayB, this]
  simp only [hn, Bool.and_true, Bool.and_eq_true, decide_eq_true_eq]
  omega
set_option maxRecDepth 100000 in
set_option maxHeartbeats 4000000 in
theorem may_some (b off cap : Nat) (code : List Ins) (lo hi : Int) (w : World) (hc : Orders w b off code) (hb : b < w.heap.size) (hn : code.length ≤ 9223372036854775807) :
    Calls Try.prog 12 #[.agg #[.slice (some ⟨b, off, none⟩) code.length cap, .int .i64 lo, .int .i64 hi]] w (OrdPost (mayB code lo hi) w) := by
  generalize hR : mayB code lo hi = R
  generalize hnn : code.length = n at *
  have HR := Lib.hid hR
  have Hn := Lib.hid hnn
  clear hR hnn
  by_cases h1 : 1 ≤ n ∧ n ≤ 20000 ∧ 0 ≤ lo ∧ lo ≤ 20000 ∧ 0 ≤ hi ∧ hi ≤ 20000
  · have H1 := Lib.hid h1
    obtain ⟨h1, h2, h3, h4, h5, h6⟩ := h1
    go_enter Try.func12, Try.ntmps12
    go_wp2_with fail
    have hB0 : Below w.heap.size w (w.alloc (.cells #[.slice (some ⟨b, off, none⟩) n cap, .int .i64 lo, .int .i64 hi] 30)) := (Below.refl _ _).alloc (Nat.le_refl _) _
    have hbox := cell_of_row _ _ 0 _ _ _ (heap_alloc_new w (.cells #[.slice (some ⟨b, off, none⟩) n cap, .int .i64 lo, .int .i64 hi] 30))
    have hp : w.heap.size < (w.alloc (.cells #[.slice (some ⟨b, off, none⟩) n cap, .int .i64 lo, .int .i64 hi] 30)).heap.size := by simp
    have hc2 := hc.below hB0 hb
    generalize w.alloc (.cells #[.slice (some ⟨b, off, none⟩) n cap, .int .i64 lo, .int .i64 hi] 30) = w2 at *
    clear hc
    go_loopw [38] (fun i wr => ∃ k : Nat, k ≤ n ∧ i = .int .i64 k ∧ Below w2.heap.size w2 wr ∧ Hid (∀ j (hj : j < code.length), j < k → orderB code[j] n = true)) (fun i _ => n - (intOf i).toNat)
    case atStart => exact ⟨0, by omega, rfl, Below.refl _ _, fun j _ hj => absurd hj (by omega)⟩
    case round =>
      obtain ⟨k, hk, rfl, hB, hrel⟩ := hrel
      have hbx : wr.cell? ⟨w.heap.size, 0, none⟩ = some (.slice (some ⟨b, off, none⟩) n cap) := (hB.cell hp).trans hbox
      clear hbox
      by_cases hlt : k < n
      · obtain ⟨c0, c1, c2, c3, c4⟩ := hc2.below hB (by omega) k (by rw [Hn.out]; exact hlt)
        have hkl : k < code.length := by rw [Hn.out]; exact hlt
        obtain ⟨x, hx⟩ : ∃ x, code[k] = x := ⟨_, rfl⟩
        rw [hx] at c0 c1 c2 c3 c4
        have HX := Lib.hid hx
        clear hx
        have hzz : w.heap.size < wr.heap.size := by have := hB.size; omega
        go_wp2_with fail
        refine (order_any x _ _).mono ?_
        rintro e w3 ⟨rfl, hb3⟩
        have hB3 : Below w2.heap.size w2 w3 := (hB.alloc hB.size _).trans (hb3.mono (by simp; have := hB.size; omega))
        clear hb3 c0 c1 c2 c3 c4
        cases hO : orderB x n
        · have HO := Lib.hid hO
          clear hO
          go_wp2_with fail
          go_ret
          exact ⟨ret_bool (by rw [← HR.out]; exact (mayB_false Hn.out hkl (by rw [HX.out]; exact HO.out)).symm), hB0.trans (hB3.mono (by omega))⟩
        · have HO := Lib.hid hO
          clear hO
          go_wp2_with fail
          go_roundw
          case rel =>
            refine ⟨k + 1, by omega, by go_num, hB3, ?_⟩
            intro j hj hjk
            by_cases e : j = k
            · subst e; rw [HX.out]; exact HO.out
            · exact hrel.out j hj (by omega)
          case measure => simp [intOf]; omega
      · obtain rfl : k = n := by omega
        go_wp2_with fail
        go_ret
        exact ⟨ret_bool (by rw [← HR.out]; exact (mayB_true Hn.out H1.out hrel.out).symm), hB0.trans (hB.mono (by omega))⟩
  · have hf := (mayB_head Hn.out h1).symm.trans HR.out
    subst hf
    go_enter Try.func12, Try.ntmps12
    go_wp2_with fail
    all_goals go_ret
    all_goals exact ⟨rfl, (Below.refl _ _).alloc (Nat.le_refl _) _⟩
theorem may_nil (lo hi : Int) (w : World) :
    Calls Try.prog 12 #[.agg #[.slice none 0 0, .int .i64 lo, .int .i64 hi]] w (OrdPost (mayB [] lo hi) w) := by
  have h : mayB [] lo hi = false := rfl
  rw [h]
  go_enter Try.func12, Try.ntmps12
  go_wp2_with fail
  go_ret
  exact ⟨rfl, (Below.refl _ _).alloc (Nat.le_refl _) _⟩
set_option maxRecDepth 100000 in
set_option maxHeartbeats 4000000 in
theorem rmay_some (b off cap : Nat) (code : List Ins) (lo hi : Int) (w : World) (hc : Orders w b off code) (hb : b < w.heap.size) (hn : code.length ≤ 9223372036854775807) :
    Calls Try.prog 13 #[.agg #[.slice (some ⟨b, off, none⟩) code.length cap, .int .i64 lo, .int .i64 hi]] w (OrdPost (mayB code lo hi) w) := by
  generalize hR : mayB code lo hi = R
  generalize hnn : code.length = n at *
  have HR := Lib.hid hR
  have Hn := Lib.hid hnn
  clear hR hnn
  by_cases h1 : 1 ≤ n ∧ n ≤ 20000 ∧ 0 ≤ lo ∧ lo ≤ 20000 ∧ 0 ≤ hi ∧ hi ≤ 20000
  · have H1 := Lib.hid h1
    obtain ⟨h1, h2, h3, h4, h5, h6⟩ := h1
    go_enter Try.func13, Try.ntmps13
    go_wp2_with fail
    have hB0 : Below w.heap.size w (w.alloc (.cells #[.slice (some ⟨b, off, none⟩) n cap, .int .i64 lo, .int .i64 hi] 30)) := (Below.refl _ _).alloc (Nat.le_refl _) _
    have hbox := cell_of_row _ _ 0 _ _ _ (heap_alloc_new w (.cells #[.slice (some ⟨b, off, none⟩) n cap, .int .i64 lo, .int .i64 hi] 30))
    have hp : w.heap.size < (w.alloc (.cells #[.slice (some ⟨b, off, none⟩) n cap, .int .i64 lo, .int .i64 hi] 30)).heap.size := by simp
    have hc2 := hc.below hB0 hb
    generalize w.alloc (.cells #[.slice (some ⟨b, off, none⟩) n cap, .int .i64 lo, .int .i64 hi] 30) = w2 at *
    clear hc
    go_loopw [4] (fun i wr => ∃ k : Nat, k ≤ n ∧ i = .int .i64 k ∧ Below w2.heap.size w2 wr ∧ Hid (∀ j (hj : j < code.length), j < k → orderB code[j] n = true)) (fun i _ => n - (intOf i).toNat)
    case atStart => exact ⟨0, by omega, rfl, Below.refl _ _, fun j _ hj => absurd hj (by omega)⟩
    case round =>
      obtain ⟨k, hk, rfl, hB, hrel⟩ := hrel
      have hbx : wr.cell? ⟨w.heap.size, 0, none⟩ = some (.slice (some ⟨b, off, none⟩) n cap) := (hB.cell hp).trans hbox
      clear hbox
      by_cases hlt : k < n
      · obtain ⟨c0, c1, c2, c3, c4⟩ := hc2.below hB (by omega) k (by rw [Hn.out]; exact hlt)
        have hkl : k < code.length := by rw [Hn.out]; exact hlt
        obtain ⟨x, hx⟩ : ∃ x, code[k] = x := ⟨_, rfl⟩
        rw [hx] at c0 c1 c2 c3 c4
        have HX := Lib.hid hx
        clear hx
        have hzz : w.heap.size < wr.heap.size := by have := hB.size; omega
        go_wp2_with fail
        refine (rorder_any x _ _).mono ?_
        rintro e w3 ⟨rfl, hb3⟩
        have hB3 : Below w2.heap.size w2 w3 := hB.trans (hb3.mono hB.size)
        clear hb3 c0 c1 c2 c3 c4
        cases hO : orderB x n
        · have HO := Lib.hid hO
          clear hO
          go_wp2_with fail
          go_ret
          exact ⟨ret_bool (by rw [← HR.out]; exact (mayB_false Hn.out hkl (by rw [HX.out]; exact HO.out)).symm), hB0.trans (hB3.mono (by omega))⟩
        · have HO := Lib.hid hO
          clear hO
          go_wp2_with fail
          go_roundw
          case rel =>
            refine ⟨k + 1, by omega, by go_num, hB3, ?_⟩
            intro j hj hjk
            by_cases e : j = k
            · subst e; rw [HX.out]; exact HO.out
            · exact hrel.out j hj (by omega)
          case measure => simp [intOf]; omega
      · obtain rfl : k = n := by omega
        go_wp2_with fail
        go_ret
        exact ⟨ret_bool (by rw [← HR.out]; exact (mayB_true Hn.out H1.out hrel.out).symm), hB0.trans (hB.mono (by omega))⟩
  · have hf := (mayB_head Hn.out h1).symm.trans HR.out
    subst hf
    go_enter Try.func13, Try.ntmps13
    go_wp2_with fail
    all_goals go_ret
    all_goals exact ⟨rfl, (Below.refl _ _).alloc (Nat.le_refl _) _⟩
theorem rmay_nil (lo hi : Int) (w : World) :
    Calls Try.prog 13 #[.agg #[.slice none 0 0, .int .i64 lo, .int .i64 hi]] w (OrdPost (mayB [] lo hi) w) := by
  have h : mayB [] lo hi = false := rfl
  rw [h]
  go_enter Try.func13, Try.ntmps13
  go_wp2_with fail
  go_ret
  exact ⟨rfl, (Below.refl _ _).alloc (Nat.le_refl _) _⟩
end mof
/-- a slice of orders: nil, or so many in a row, read where the call began -/
def OrdersAt (w : World) (v : Value) (code : List Ins) : Prop :=
  (v = .slice none 0 0 ∧ code = []) ∨ ∃ b off cap, v = .slice (some ⟨b, off, none⟩) code.length cap ∧ b < w.heap.size ∧ code.length ≤ 9223372036854775807 ∧ Orders w b off code
theorem may_any (v : Value) (code : List Ins) (lo hi : Int) (w : World) (h : OrdersAt w v code) :
    Calls Try.prog 12 #[.agg #[v, .int .i64 lo, .int .i64 hi]] w (mof.OrdPost (mayB code lo hi) w) := by
  rcases h with ⟨rfl, rfl⟩ | ⟨b, off, cap, rfl, hb, hn, ho⟩
  · exact mof.may_nil lo hi w
  · exact mof.may_some b off cap code lo hi w ho hb hn
theorem rmay_any (v : Value) (code : List Ins) (lo hi : Int) (w : World) (h : OrdersAt w v code) :
    Calls Try.prog 13 #[.agg #[v, .int .i64 lo, .int .i64 hi]] w (mof.OrdPost (mayB code lo hi) w) := by
  rcases h with ⟨rfl, rfl⟩ | ⟨b, off, cap, rfl, hb, hn, ho⟩
  · exact mof.rmay_nil lo hi w
  · exact mof.rmay_some b off cap code lo hi w ho hb hn
end Go.Proofs.Ytpcihajmcejliaa
