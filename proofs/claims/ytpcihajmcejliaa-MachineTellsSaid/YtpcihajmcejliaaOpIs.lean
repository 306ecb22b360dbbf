/- num.Op where its answer is known by name. -/
import Derived.Test.YtpcihajmcejliaaNum
import Derived.Test.YtpcihajmcejliaaRef1
namespace Go.Proofs.Ytpcihajmcejliaa
open Go.RowKit
theorem op_is (n a b q : Int) (x : Bool) (h : opF n a b = (q, x)) (w : World) :
   Calls Try.prog 9 #[.int .i64 n, .int .i64 a, .int .i64 b] w fun e w' => e = .returned (.tuple #[.int .i64 q, .bool x]) ∧ w = w' := by
  have := op_any n a b w
  rw [h] at this
  exact this
theorem rop_is (n a b q : Int) (x : Bool) (ha : -9223372036854775808 ≤ a ∧ a ≤ 9223372036854775807) (hb : -9223372036854775808 ≤ b ∧ b ≤ 9223372036854775807) (h : opF n a b = (q, x)) (w : World) :
   Calls Try.prog 10 #[.int .i64 n, .int .i64 a, .int .i64 b] w fun e w' => e = .returned (.tuple #[.int .i64 q, .bool x]) ∧ w = w' := by
  have := rop_any n a b w ha hb
  rw [h] at this
  exact this
theorem join_is (a b j : Int) (h : joinF a b = j) (w : World) :
   Calls Try.prog 8 #[.int .i64 a, .int .i64 b] w fun e w' => e = .returned (.int .i64 j) ∧ w = w' := by
  have := join_any a b w
  rw [h] at this
  exact this
theorem rjoin_is (a b j : Int) (h : joinF a b = j) (w : World) :
   Calls Try.prog 11 #[.int .i64 a, .int .i64 b] w fun e w' => e = .returned (.int .i64 j) ∧ w = w' := by
  have := rjoin_any a b w
  rw [h] at this
  exact this
end Go.Proofs.Ytpcihajmcejliaa
