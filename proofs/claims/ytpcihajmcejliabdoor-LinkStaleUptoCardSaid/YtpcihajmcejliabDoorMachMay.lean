/- The walks of chapter 8's look at orders, of the program and of the reference: whether an order may be, among so many. -/
import Derived.Test.YtpcihajmcejliabDoorProg
import Derived.Test.YtpcihajmcejliabDoorMach
import Derived.Test.YtpcihajmcejliabDoorLib
namespace Go.Proofs.YtpcihajmcejliabDoor
open Go.RowKit
namespace mof
def OfPost (s : Bool × Bool × Bool × Bool × Bool) (w : World) (e : Ending) (w' : World) : Prop :=
  e = .returned (.tuple #[.agg #[.bool s.1, .bool s.2.1, .bool s.2.2.1, .bool s.2.2.2.1], .bool s.2.2.2.2]) ∧ Below w.heap.size w w'
theorem of_post {s : Bool × Bool × Bool × Bool × Bool} {w w' : World} {a b c n ok : Bool} (h : s = (a, b, c, n, ok)) (hb : Below w.heap.size w w') :
    OfPost s w (.returned (.tuple #[.agg #[.bool a, .bool b, .bool c, .bool n], .bool ok])) w' := by
  subst h; exact ⟨rfl, hb⟩
set_option maxHeartbeats 4000000 in
theorem of_any (op : Int) (w : World) : Calls Tryd.prog 25 #[.int .i64 op] w (OfPost (shapeF op) w) := by
  go_enter Tryd.func25, Tryd.ntmps25
  go_wp2
  all_goals go_light
  all_goals try simp only [beq_iff_eq, beq_eq_false_iff_ne] at *
  all_goals refine bodyPost_ret (v := .tuple #[.agg #[.bool _, .bool _, .bool _, .bool _], .bool _]) (by simp [results, Tryd.results25, go_sem]; exact ⟨⟨rfl, rfl, rfl, rfl⟩, rfl⟩) rfl (of_post ?_ ((Below.refl _ _).alloc (Nat.le_refl _) _))
  all_goals (unfold shapeF; repeat (first | rfl | rw [if_pos (by omega)] | rw [if_neg (by omega)]))
  all_goals (simp; try omega)
theorem reg_any (is : Bool) (n : Int) (w : World) : Calls Tryd.prog 26 #[.bool is, .int .i64 n] w fun e w' => e = .returned (.bool (regB is n)) ∧ w = w' := by
  go_enter Tryd.func26, Tryd.ntmps26
  go_wp2
  all_goals go_ret
  all_goals go_light
  all_goals refine ⟨ret_bool ?_, rfl⟩
  all_goals (simp_all [regB]; try omega)
def OrdPost (b : Bool) (w : World) (e : Ending) (w' : World) : Prop := e = .returned (.bool b) ∧ Below w.heap.size w w'
set_option maxRecDepth 100000 in
set_option maxHeartbeats 4000000 in
theorem order_any (i : Ins) (many : Int) (w : World) :
    Calls Tryd.prog 17 #[.agg #[.int .i64 i.op, .int .i64 i.a, .int .i64 i.b, .int .i64 i.c, .int .i64 i.n], .int .i64 many] w (OrdPost (orderB i many) w) := by
  obtain ⟨op, a, b, c, n⟩ := i
  obtain ⟨⟨sa, sb, sc, sn, ok⟩, hs⟩ : ∃ s, shapeF op = s := ⟨_, rfl⟩
  have hO := Lib.hid (show orderB ⟨op, a, b, c, n⟩ many = (ok && regB sa a && regB sb b && regB sc c && (sn || n == 0) && lastB op n many) by simp only [orderB, hs])
  have hS := Lib.hid hs
  clear hs
  go_enter Tryd.func17, Tryd.ntmps17
  go_wp2_with fail
  refine (of_any _ _).mono ?_
  rintro e w1 ⟨rfl, hb⟩
  rw [hS.out]
  have hB : Below w.heap.size w w1 := ((Below.refl _ _).alloc (Nat.le_refl _) _).trans (hb.mono (by simp))
  obtain ⟨hc, hf⟩ := bcell hb
  have hz : w.heap.size < w1.heap.size := by have := hb.size; simp at this; omega
  clear hb
  go_wp2_with (go_at_call 26; refine (reg_any _ _ _).mono ?_; rintro e w2 ⟨rfl, rfl⟩)
  all_goals go_ret
  all_goals refine ⟨?_, hB.alloc hB.size _⟩
  all_goals go_light
  all_goals clear hc hf hz hB hS
  all_goals refine ret_bool ?_
  all_goals rw [hO.out]
  all_goals clear hO
  all_goals simp only [beq_iff_eq, beq_eq_false_iff_ne, bne_iff_ne, bne_eq_false_iff_eq, Bool.not_eq_true] at *
  all_goals (first | (simp [*]; done) | ((first | rw [lastB_j (by omega)] | rw [lastB_c (by omega)] | rw [lastB_e (by omega)]); first | (simp [*]; done) | (simp [*]; omega)))
end mof
end Go.Proofs.YtpcihajmcejliabDoor
