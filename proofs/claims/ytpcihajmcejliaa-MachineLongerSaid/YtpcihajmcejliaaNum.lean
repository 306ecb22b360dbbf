/- The walks of package num: what num.Op and num.Join return, for every argument. -/
import Derived.Test.YtpcihajmcejliaaProg
import Derived.Test.YtpcihajmcejliaaNumDefs
import Derived.WalkKit
import Derived.WalkLawsBesides
namespace Go.Proofs.Ytpcihajmcejliaa
open Go.RowKit
theorem join_any (a b : Int) (w : World) :
   Calls Try.prog 8 #[.int .i64 a, .int .i64 b] w fun e w' => e = .returned (.int .i64 (joinF a b)) ∧ w = w' := by
  by_cases ha : a = 0
  · subst ha
    by_cases hb : b = 0
    · subst hb
      go_enter Try.func8, Try.ntmps8
      go_wp2
      go_ret
      exact ⟨by simp [joinF], rfl⟩
    · go_enter Try.func8, Try.ntmps8
      go_wp2
      go_ret
      exact ⟨by simp [joinF, hb], rfl⟩
  · go_enter Try.func8, Try.ntmps8
    go_wp2
    go_ret
    exact ⟨by simp [joinF, ha], rfl⟩
namespace num
theorem tup {a b : Int} {x y : Bool} (h : a = b) (h' : x = y) : Ending.returned (.tuple #[.int .i64 a, .bool x]) = .returned (.tuple #[.int .i64 b, .bool y]) := by rw [h, h']
theorem op_1 (a b : Int) (w : World) :
   Calls Try.prog 9 #[.int .i64 1, .int .i64 a, .int .i64 b] w fun e w' => e = .returned (.tuple #[.int .i64 (opF 1 a b).1, .bool (opF 1 a b).2]) ∧ w = w' := by
  go_enter Try.func9, Try.ntmps9
  go_wp2
  go_ret2
  exact ⟨tup rfl rfl, rfl⟩
theorem op_2 (a b : Int) (w : World) :
   Calls Try.prog 9 #[.int .i64 2, .int .i64 a, .int .i64 b] w fun e w' => e = .returned (.tuple #[.int .i64 (opF 2 a b).1, .bool (opF 2 a b).2]) ∧ w = w' := by
  go_enter Try.func9, Try.ntmps9
  go_wp2
  go_ret2
  exact ⟨tup rfl rfl, rfl⟩
theorem op_3 (a b : Int) (w : World) :
   Calls Try.prog 9 #[.int .i64 3, .int .i64 a, .int .i64 b] w fun e w' => e = .returned (.tuple #[.int .i64 (opF 3 a b).1, .bool (opF 3 a b).2]) ∧ w = w' := by
  go_enter Try.func9, Try.ntmps9
  go_wp2
  go_ret2
  exact ⟨tup rfl rfl, rfl⟩
theorem op_4 (a b : Int) (w : World) :
   Calls Try.prog 9 #[.int .i64 4, .int .i64 a, .int .i64 b] w fun e w' => e = .returned (.tuple #[.int .i64 (opF 4 a b).1, .bool (opF 4 a b).2]) ∧ w = w' := by
  by_cases h0 : b = 0
  · subst h0
    go_enter Try.func9, Try.ntmps9
    go_wp2
    go_ret2
    exact ⟨tup rfl rfl, rfl⟩
  · by_cases h1 : b = -1
    · subst h1
      go_enter Try.func9, Try.ntmps9
      go_wp2
      go_ret2
      exact ⟨tup rfl rfl, rfl⟩
    · go_enter Try.func9, Try.ntmps9
      go_wp2
      go_ret2
      exact ⟨tup (by simp [opF, h0, h1]) (by simp [opF, h0]), rfl⟩
theorem op_5 (a b : Int) (w : World) :
   Calls Try.prog 9 #[.int .i64 5, .int .i64 a, .int .i64 b] w fun e w' => e = .returned (.tuple #[.int .i64 (opF 5 a b).1, .bool (opF 5 a b).2]) ∧ w = w' := by
  by_cases h0 : b = 0
  · subst h0
    go_enter Try.func9, Try.ntmps9
    go_wp2
    go_ret2
    exact ⟨tup rfl rfl, rfl⟩
  · by_cases h1 : b = -1
    · subst h1
      go_enter Try.func9, Try.ntmps9
      go_wp2
      go_ret2
      exact ⟨tup rfl rfl, rfl⟩
    · go_enter Try.func9, Try.ntmps9
      go_wp2
      go_ret2
      exact ⟨tup (by simp [opF, h0, h1]) (by simp [opF, h0]), rfl⟩
theorem op_6 (a b : Int) (w : World) :
   Calls Try.prog 9 #[.int .i64 6, .int .i64 a, .int .i64 b] w fun e w' => e = .returned (.tuple #[.int .i64 (opF 6 a b).1, .bool (opF 6 a b).2]) ∧ w = w' := by
  go_enter Try.func9, Try.ntmps9
  go_wp2
  go_ret2
  exact ⟨tup rfl rfl, rfl⟩
theorem op_7 (a b : Int) (w : World) :
   Calls Try.prog 9 #[.int .i64 7, .int .i64 a, .int .i64 b] w fun e w' => e = .returned (.tuple #[.int .i64 (opF 7 a b).1, .bool (opF 7 a b).2]) ∧ w = w' := by
  go_enter Try.func9, Try.ntmps9
  go_wp2
  go_ret2
  exact ⟨tup rfl rfl, rfl⟩
theorem op_8 (a b : Int) (w : World) :
   Calls Try.prog 9 #[.int .i64 8, .int .i64 a, .int .i64 b] w fun e w' => e = .returned (.tuple #[.int .i64 (opF 8 a b).1, .bool (opF 8 a b).2]) ∧ w = w' := by
  by_cases h : a < b
  · go_enter Try.func9, Try.ntmps9
    go_wp2
    go_ret2
    exact ⟨tup (by simp [opF, h]) rfl, rfl⟩
  · go_enter Try.func9, Try.ntmps9
    go_wp2
    go_ret2
    exact ⟨tup (by simp [opF, h]) rfl, rfl⟩
theorem op_9 (a b : Int) (w : World) :
   Calls Try.prog 9 #[.int .i64 9, .int .i64 a, .int .i64 b] w fun e w' => e = .returned (.tuple #[.int .i64 (opF 9 a b).1, .bool (opF 9 a b).2]) ∧ w = w' := by
  by_cases h : a = b
  · subst h
    go_enter Try.func9, Try.ntmps9
    go_wp2
    go_ret2
    exact ⟨tup (by simp [opF]) rfl, rfl⟩
  · go_enter Try.func9, Try.ntmps9
    go_wp2
    go_ret2
    exact ⟨tup (by simp [opF, h]) rfl, rfl⟩
theorem op_else (n a b : Int) (w : World) (h : n < 1 ∨ 9 < n) :
   Calls Try.prog 9 #[.int .i64 n, .int .i64 a, .int .i64 b] w fun e w' => e = .returned (.tuple #[.int .i64 (opF n a b).1, .bool (opF n a b).2]) ∧ w = w' := by
  have h' : opF n a b = (0, false) := by
    unfold opF
    repeat rw [if_neg (by omega)]
  rw [h']
  clear h'
  go_enter Try.func9, Try.ntmps9
  go_wp2
  go_ret2
  exact ⟨rfl, rfl⟩
end num
/-- num.Op, at every operation. -/
theorem op_any (n a b : Int) (w : World) :
   Calls Try.prog 9 #[.int .i64 n, .int .i64 a, .int .i64 b] w fun e w' => e = .returned (.tuple #[.int .i64 (opF n a b).1, .bool (opF n a b).2]) ∧ w = w' := by
  by_cases h : n < 1 ∨ 9 < n
  · exact num.op_else n a b w h
  · have : n = 1 ∨ n = 2 ∨ n = 3 ∨ n = 4 ∨ n = 5 ∨ n = 6 ∨ n = 7 ∨ n = 8 ∨ n = 9 := by omega
    rcases this with rfl | rfl | rfl | rfl | rfl | rfl | rfl | rfl | rfl
    · exact num.op_1 a b w
    · exact num.op_2 a b w
    · exact num.op_3 a b w
    · exact num.op_4 a b w
    · exact num.op_5 a b w
    · exact num.op_6 a b w
    · exact num.op_7 a b w
    · exact num.op_8 a b w
    · exact num.op_9 a b w
end Go.Proofs.Ytpcihajmcejliaa
