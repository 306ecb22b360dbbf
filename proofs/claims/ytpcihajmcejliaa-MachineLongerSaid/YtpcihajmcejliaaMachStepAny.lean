/- The machine's step at every order that may be: what stepF says. -/
import Derived.Test.YtpcihajmcejliaaMachStepA
import Derived.Test.YtpcihajmcejliaaMachStepB
import Derived.Test.YtpcihajmcejliaaMachStepC
import Derived.Test.YtpcihajmcejliaaMachStepX
import Derived.Test.YtpcihajmcejliaaMachStepY
import Derived.Test.YtpcihajmcejliaaMachStepL
import Derived.Test.YtpcihajmcejliaaMachStepM
import Derived.Test.YtpcihajmcejliaaMachStepN
import Derived.Test.YtpcihajmcejliaaMachStepO
import Derived.Test.YtpcihajmcejliaaMachStepP
import Derived.Test.YtpcihajmcejliaaMachStepQ
namespace Go.Proofs.Ytpcihajmcejliaa
open Go.RowKit
open mst
namespace mst
theorem reg_of {n : Int} (h : regB true n = true) : ∃ m : Nat, n = m ∧ m < 8 := by
  simp only [regB, Bool.true_and, Bool.or_eq_true, Bool.and_eq_true, beq_iff_eq, decide_eq_true_eq] at h
  exact ⟨n.toNat, by omega, by omega⟩
theorem reg_no {n : Int} (h : regB false n = true) : 0 = n := by
  simp only [regB, Bool.false_and, Bool.or_false, beq_iff_eq] at h
  exact h.symm
theorem order_parts {op a b c n many : Int} {s0 s1 s2 s3 s4 : Bool} (h : orderB ⟨op, a, b, c, n⟩ many = true) (hs : shapeF op = (s0, s1, s2, s3, s4)) :
    s4 = true ∧ regB s0 a = true ∧ regB s1 b = true ∧ regB s2 c = true ∧ (s3 || n == 0) = true ∧ lastB op n many = true := by
  simp only [orderB, hs, Bool.and_eq_true] at h
  exact ⟨h.1.1.1.1.1, h.1.1.1.1.2, h.1.1.1.2, h.1.1.2, h.1.2, h.2⟩
theorem op_of {op a b c n many : Int} (h : orderB ⟨op, a, b, c, n⟩ many = true) : (1 ≤ op ∧ op ≤ 17) ∨ (21 ≤ op ∧ op ≤ 29) := by
  obtain ⟨⟨s0, s1, s2, s3, s4⟩, hx⟩ : ∃ x, shapeF op = x := ⟨_, rfl⟩
  have hs : (shapeF op).2.2.2.2 = true := by rw [hx]; exact (order_parts h hx).1
  unfold shapeF at hs
  by_cases hc : 1 ≤ op ∧ op ≤ 17
  · exact .inl hc
  · rw [if_neg (by omega), if_neg (by omega), if_neg (by omega), if_neg (by omega), if_neg (by omega), if_neg (by omega)] at hs
    simp only [decide_eq_true_eq] at hs
    exact .inr (by omega)
section
variable {w : World} {B S : Nat} {cv : Value} {i0 i1 : List Int} {E st : Int} {σ : Mst}
set_option maxRecDepth 100000 in
set_option maxHeartbeats 2000000 in
theorem step_any (hM : PMem w B S cv i0 i1 E st σ) (hpc : 0 ≤ σ.pc ∧ σ.pc ≤ 30000) (hcl : σ.calls.length ≤ 30) (hl0 : i0.length ≤ 9223372036854775807) (hl1 : i1.length ≤ 9223372036854775807) (ho0 : σ.o0.length ≤ 100000) (ho1 : σ.o1.length ≤ 100000)
    (i : Ins) (many : Int) (hi : orderB i many = true) :
    Calls Try.prog 35 #[.pointer (some ⟨S, 0, none⟩), .agg #[.int .i64 i.op, .int .i64 i.a, .int .i64 i.b, .int .i64 i.c, .int .i64 i.n]] w (PStep B S cv i0 i1 E st σ w (stepF i0 i1 σ i)) := by
  obtain ⟨own, f, vl, vh, vi0, vi1, vc, g0, g1, h⟩ := hM
  obtain ⟨op, a, b, c, n⟩ := i
  have hop := op_of hi
  by_cases e1 : op = 1
  · subst e1
    obtain ⟨-, ra, rb, rc, -, -⟩ := order_parts hi rfl
    obtain ⟨a, rfl, ha⟩ := reg_of ra
    obtain rfl := reg_no rb
    obtain rfl := reg_no rc
    rw [show stepF i0 i1 σ ⟨1, (a : Int), 0, 0, n⟩ = goOn σ (upd σ a n) from rfl]
    exact p1 h hpc a n ha
  by_cases e2 : op = 2
  · subst e2
    obtain ⟨-, ra, rb, rc, hn, -⟩ := order_parts hi rfl
    obtain ⟨a, rfl, ha⟩ := reg_of ra
    obtain ⟨b, rfl, hb⟩ := reg_of rb
    obtain rfl := reg_no rc
    obtain rfl : n = 0 := by simpa using hn
    exact p2 h hpc a b ha hb
  by_cases e3 : op = 3
  · subst e3
    obtain ⟨-, ra, rb, rc, -, -⟩ := order_parts hi rfl
    obtain ⟨a, rfl, ha⟩ := reg_of ra
    obtain ⟨b, rfl, hb⟩ := reg_of rb
    obtain rfl := reg_no rc
    exact p3 h hpc a b n _ ha hb (Lib.hid rfl)
  by_cases e4 : op = 4
  · subst e4
    obtain ⟨-, ra, rb, rc, -, -⟩ := order_parts hi rfl
    obtain ⟨a, rfl, ha⟩ := reg_of ra
    obtain ⟨b, rfl, hb⟩ := reg_of rb
    obtain rfl := reg_no rc
    rw [show stepF i0 i1 σ ⟨4, (a : Int), (b : Int), 0, n⟩ = (if 0 ≤ wrap64 (σ.r b + n) ∧ wrap64 (σ.r b + n) < σ.lo.length then goOn σ (upd σ a (σ.lo.getD (wrap64 (σ.r b + n)).toNat 0)) else .error 6) from rfl]
    by_cases hh : 0 ≤ wrap64 (σ.r b + n) ∧ wrap64 (σ.r b + n) < σ.lo.length
    · rw [if_pos hh]
      exact p4 h hpc a b n _ ha hb (Lib.hid rfl) hh.1 hh.2
    · rw [if_neg hh]
      exact p4x h hpc a b n _ ha hb (Lib.hid rfl) (by omega)
  by_cases e5 : op = 5
  · subst e5
    obtain ⟨-, ra, rb, rc, -, -⟩ := order_parts hi rfl
    obtain ⟨a, rfl, ha⟩ := reg_of ra
    obtain ⟨b, rfl, hb⟩ := reg_of rb
    obtain rfl := reg_no rc
    rw [show stepF i0 i1 σ ⟨5, (a : Int), (b : Int), 0, n⟩ = (if 0 ≤ wrap64 (σ.r b + n) ∧ wrap64 (σ.r b + n) < σ.hi.length then goOn σ (upd σ a (σ.hi.getD (wrap64 (σ.r b + n)).toNat 0)) else .error 6) from rfl]
    by_cases hh : 0 ≤ wrap64 (σ.r b + n) ∧ wrap64 (σ.r b + n) < σ.hi.length
    · rw [if_pos hh]
      exact p5 h hpc a b n _ ha hb (Lib.hid rfl) hh.1 hh.2
    · rw [if_neg hh]
      exact p5x h hpc a b n _ ha hb (Lib.hid rfl) (by omega)
  by_cases e6 : op = 6
  · subst e6
    obtain ⟨-, ra, rb, rc, -, -⟩ := order_parts hi rfl
    obtain ⟨a, rfl, ha⟩ := reg_of ra
    obtain ⟨b, rfl, hb⟩ := reg_of rb
    obtain rfl := reg_no rc
    rw [show stepF i0 i1 σ ⟨6, (a : Int), (b : Int), 0, n⟩ = (if 0 ≤ wrap64 (σ.r b + n) ∧ wrap64 (σ.r b + n) < σ.lo.length then goOn σ { σ with lo := σ.lo.set (wrap64 (σ.r b + n)).toNat (σ.r a) } else .error 6) from rfl]
    by_cases hh : 0 ≤ wrap64 (σ.r b + n) ∧ wrap64 (σ.r b + n) < σ.lo.length
    · rw [if_pos hh]
      exact p6 h hpc a b n _ ha hb (Lib.hid rfl) hh.1 hh.2
    · rw [if_neg hh]
      exact p6x h hpc a b n _ ha hb (Lib.hid rfl) (by omega)
  by_cases e7 : op = 7
  · subst e7
    obtain ⟨-, ra, rb, rc, -, -⟩ := order_parts hi rfl
    obtain ⟨a, rfl, ha⟩ := reg_of ra
    obtain ⟨b, rfl, hb⟩ := reg_of rb
    obtain rfl := reg_no rc
    rw [show stepF i0 i1 σ ⟨7, (a : Int), (b : Int), 0, n⟩ = (if 0 ≤ wrap64 (σ.r b + n) ∧ wrap64 (σ.r b + n) < σ.hi.length then goOn σ { σ with hi := σ.hi.set (wrap64 (σ.r b + n)).toNat (σ.r a) } else .error 6) from rfl]
    by_cases hh : 0 ≤ wrap64 (σ.r b + n) ∧ wrap64 (σ.r b + n) < σ.hi.length
    · rw [if_pos hh]
      exact p7 h hpc a b n _ ha hb (Lib.hid rfl) hh.1 hh.2
    · rw [if_neg hh]
      exact p7x h hpc a b n _ ha hb (Lib.hid rfl) (by omega)
  by_cases e8 : op = 8
  · subst e8
    obtain ⟨-, ra, rb, rc, -, -⟩ := order_parts hi rfl
    obtain rfl := reg_no ra
    obtain rfl := reg_no rb
    obtain rfl := reg_no rc
    exact p8 h hpc n
  by_cases e9 : op = 9
  · subst e9
    obtain ⟨-, ra, rb, rc, -, -⟩ := order_parts hi rfl
    obtain ⟨a, rfl, ha⟩ := reg_of ra
    obtain rfl := reg_no rb
    obtain rfl := reg_no rc
    rw [show stepF i0 i1 σ ⟨9, (a : Int), 0, 0, n⟩ = .ok { σ with pc := if σ.r a = 0 then n else σ.pc + 1 } from rfl]
    by_cases hh : σ.r a = 0
    · rw [if_pos hh]
      exact p9 h hpc a n ha hh
    · rw [if_neg hh]
      exact p9x h hpc a n ha hh
  by_cases e10 : op = 10
  · subst e10
    obtain ⟨-, ra, rb, rc, -, -⟩ := order_parts hi rfl
    obtain ⟨a, rfl, ha⟩ := reg_of ra
    obtain rfl := reg_no rb
    obtain rfl := reg_no rc
    rw [show stepF i0 i1 σ ⟨10, (a : Int), 0, 0, n⟩ = (if 0 ≤ σ.r a ∧ σ.r a < n then goOn σ σ else .error 3) from rfl]
    by_cases hh : 0 ≤ σ.r a
    · by_cases hh2 : σ.r a < n
      · rw [if_pos ⟨hh, hh2⟩]
        exact p10 h hpc a n ha hh hh2
      · rw [if_neg (fun e => hh2 e.2)]
        exact p10y h hpc a n ha hh (by omega)
    · rw [if_neg (fun e => hh e.1)]
      exact p10x h hpc a n ha (by omega)
  by_cases e11 : op = 11
  · subst e11
    obtain ⟨-, ra, rb, rc, -, -⟩ := order_parts hi rfl
    obtain rfl := reg_no ra
    obtain rfl := reg_no rb
    obtain rfl := reg_no rc
    rw [show stepF i0 i1 σ ⟨11, 0, 0, 0, n⟩ = (if σ.calls.length < 30 then .ok { σ with calls := σ.calls ++ [σ.pc + 1], pc := n } else .error 5) from rfl]
    by_cases hh : σ.calls.length < 30
    · rw [if_pos hh]
      exact p11 h hpc n hh
    · rw [if_neg hh]
      exact p11x h hpc n hh
  by_cases e12 : op = 12
  · subst e12
    obtain ⟨-, ra, rb, rc, hn, -⟩ := order_parts hi rfl
    obtain rfl := reg_no ra
    obtain rfl := reg_no rb
    obtain rfl := reg_no rc
    obtain rfl : n = 0 := by simpa using hn
    rw [show stepF i0 i1 σ ⟨12, 0, 0, 0, 0⟩ = (if σ.calls.length = 0 then .error 6 else .ok { σ with calls := σ.calls.take (σ.calls.length - 1), pc := σ.calls.getD (σ.calls.length - 1) 0 }) from rfl]
    by_cases hh : σ.calls.length = 0
    · rw [if_pos hh]
      exact p12x h hpc hh
    · rw [if_neg hh]
      exact p12 h hpc hh hcl
  by_cases e13 : op = 13
  · subst e13
    obtain ⟨-, ra, rb, rc, hn, -⟩ := order_parts hi rfl
    obtain ⟨a, rfl, ha⟩ := reg_of ra
    obtain rfl := reg_no rb
    obtain rfl := reg_no rc
    obtain rfl : n = 0 := by simpa using hn
    exact p13 h hpc a ha ho0
  by_cases e14 : op = 14
  · subst e14
    obtain ⟨-, ra, rb, rc, hn, -⟩ := order_parts hi rfl
    obtain ⟨a, rfl, ha⟩ := reg_of ra
    obtain rfl := reg_no rb
    obtain rfl := reg_no rc
    obtain rfl : n = 0 := by simpa using hn
    exact p14 h hpc a ha ho1
  by_cases e15 : op = 15
  · subst e15
    obtain ⟨-, ra, rb, rc, hn, -⟩ := order_parts hi rfl
    obtain ⟨a, rfl, ha⟩ := reg_of ra
    obtain rfl := reg_no rb
    obtain rfl := reg_no rc
    obtain rfl : n = 0 := by simpa using hn
    rw [show stepF i0 i1 σ ⟨15, (a : Int), 0, 0, 0⟩ = (if σ.u0 < i0.length then goOn σ { upd σ a (i0.getD σ.u0 0) with u0 := σ.u0 + 1 } else .error 4) from rfl]
    by_cases hh : σ.u0 < i0.length
    · rw [if_pos hh]
      exact p15 h hpc a ha hh hl0
    · rw [if_neg hh]
      exact p15x h hpc a ha (by omega)
  by_cases e16 : op = 16
  · subst e16
    obtain ⟨-, ra, rb, rc, hn, -⟩ := order_parts hi rfl
    obtain ⟨a, rfl, ha⟩ := reg_of ra
    obtain rfl := reg_no rb
    obtain rfl := reg_no rc
    obtain rfl : n = 0 := by simpa using hn
    rw [show stepF i0 i1 σ ⟨16, (a : Int), 0, 0, 0⟩ = (if σ.u1 < i1.length then goOn σ { upd σ a (i1.getD σ.u1 0) with u1 := σ.u1 + 1 } else .error 4) from rfl]
    by_cases hh : σ.u1 < i1.length
    · rw [if_pos hh]
      exact p16 h hpc a ha hh hl1
    · rw [if_neg hh]
      exact p16x h hpc a ha (by omega)
  by_cases e17 : op = 17
  · subst e17
    obtain ⟨-, ra, rb, rc, hn, -⟩ := order_parts hi rfl
    obtain rfl := reg_no ra
    obtain rfl := reg_no rb
    obtain rfl := reg_no rc
    obtain rfl : n = 0 := by simpa using hn
    exact p17 h hpc
  by_cases e21 : op = 21
  · subst e21
    obtain ⟨-, ra, rb, rc, hn, -⟩ := order_parts hi rfl
    obtain ⟨a, rfl, ha⟩ := reg_of ra
    obtain ⟨b, rfl, hb⟩ := reg_of rb
    obtain ⟨c, rfl, hc⟩ := reg_of rc
    obtain rfl : n = 0 := by simpa using hn
    obtain ⟨⟨q, z⟩, hq⟩ : ∃ x, opF 1 (σ.r b) (σ.r c) = x := ⟨_, rfl⟩
    rw [show stepF i0 i1 σ ⟨21, (a : Int), (b : Int), (c : Int), 0⟩ = (if (opF 1 (σ.r b) (σ.r c)).2 then goOn σ (upd σ a (opF 1 (σ.r b) (σ.r c)).1) else .error 2) from rfl, hq]
    cases z
    · exact p21x h hpc a b c q ha hb hc hq
    · exact p21 h hpc a b c q ha hb hc hq
  by_cases e22 : op = 22
  · subst e22
    obtain ⟨-, ra, rb, rc, hn, -⟩ := order_parts hi rfl
    obtain ⟨a, rfl, ha⟩ := reg_of ra
    obtain ⟨b, rfl, hb⟩ := reg_of rb
    obtain ⟨c, rfl, hc⟩ := reg_of rc
    obtain rfl : n = 0 := by simpa using hn
    obtain ⟨⟨q, z⟩, hq⟩ : ∃ x, opF 2 (σ.r b) (σ.r c) = x := ⟨_, rfl⟩
    rw [show stepF i0 i1 σ ⟨22, (a : Int), (b : Int), (c : Int), 0⟩ = (if (opF 2 (σ.r b) (σ.r c)).2 then goOn σ (upd σ a (opF 2 (σ.r b) (σ.r c)).1) else .error 2) from rfl, hq]
    cases z
    · exact p22x h hpc a b c q ha hb hc hq
    · exact p22 h hpc a b c q ha hb hc hq
  by_cases e23 : op = 23
  · subst e23
    obtain ⟨-, ra, rb, rc, hn, -⟩ := order_parts hi rfl
    obtain ⟨a, rfl, ha⟩ := reg_of ra
    obtain ⟨b, rfl, hb⟩ := reg_of rb
    obtain ⟨c, rfl, hc⟩ := reg_of rc
    obtain rfl : n = 0 := by simpa using hn
    obtain ⟨⟨q, z⟩, hq⟩ : ∃ x, opF 3 (σ.r b) (σ.r c) = x := ⟨_, rfl⟩
    rw [show stepF i0 i1 σ ⟨23, (a : Int), (b : Int), (c : Int), 0⟩ = (if (opF 3 (σ.r b) (σ.r c)).2 then goOn σ (upd σ a (opF 3 (σ.r b) (σ.r c)).1) else .error 2) from rfl, hq]
    cases z
    · exact p23x h hpc a b c q ha hb hc hq
    · exact p23 h hpc a b c q ha hb hc hq
  by_cases e24 : op = 24
  · subst e24
    obtain ⟨-, ra, rb, rc, hn, -⟩ := order_parts hi rfl
    obtain ⟨a, rfl, ha⟩ := reg_of ra
    obtain ⟨b, rfl, hb⟩ := reg_of rb
    obtain ⟨c, rfl, hc⟩ := reg_of rc
    obtain rfl : n = 0 := by simpa using hn
    obtain ⟨⟨q, z⟩, hq⟩ : ∃ x, opF 4 (σ.r b) (σ.r c) = x := ⟨_, rfl⟩
    rw [show stepF i0 i1 σ ⟨24, (a : Int), (b : Int), (c : Int), 0⟩ = (if (opF 4 (σ.r b) (σ.r c)).2 then goOn σ (upd σ a (opF 4 (σ.r b) (σ.r c)).1) else .error 2) from rfl, hq]
    cases z
    · exact p24x h hpc a b c q ha hb hc hq
    · exact p24 h hpc a b c q ha hb hc hq
  by_cases e25 : op = 25
  · subst e25
    obtain ⟨-, ra, rb, rc, hn, -⟩ := order_parts hi rfl
    obtain ⟨a, rfl, ha⟩ := reg_of ra
    obtain ⟨b, rfl, hb⟩ := reg_of rb
    obtain ⟨c, rfl, hc⟩ := reg_of rc
    obtain rfl : n = 0 := by simpa using hn
    obtain ⟨⟨q, z⟩, hq⟩ : ∃ x, opF 5 (σ.r b) (σ.r c) = x := ⟨_, rfl⟩
    rw [show stepF i0 i1 σ ⟨25, (a : Int), (b : Int), (c : Int), 0⟩ = (if (opF 5 (σ.r b) (σ.r c)).2 then goOn σ (upd σ a (opF 5 (σ.r b) (σ.r c)).1) else .error 2) from rfl, hq]
    cases z
    · exact p25x h hpc a b c q ha hb hc hq
    · exact p25 h hpc a b c q ha hb hc hq
  by_cases e26 : op = 26
  · subst e26
    obtain ⟨-, ra, rb, rc, hn, -⟩ := order_parts hi rfl
    obtain ⟨a, rfl, ha⟩ := reg_of ra
    obtain ⟨b, rfl, hb⟩ := reg_of rb
    obtain ⟨c, rfl, hc⟩ := reg_of rc
    obtain rfl : n = 0 := by simpa using hn
    obtain ⟨⟨q, z⟩, hq⟩ : ∃ x, opF 6 (σ.r b) (σ.r c) = x := ⟨_, rfl⟩
    rw [show stepF i0 i1 σ ⟨26, (a : Int), (b : Int), (c : Int), 0⟩ = (if (opF 6 (σ.r b) (σ.r c)).2 then goOn σ (upd σ a (opF 6 (σ.r b) (σ.r c)).1) else .error 2) from rfl, hq]
    cases z
    · exact p26x h hpc a b c q ha hb hc hq
    · exact p26 h hpc a b c q ha hb hc hq
  by_cases e27 : op = 27
  · subst e27
    obtain ⟨-, ra, rb, rc, hn, -⟩ := order_parts hi rfl
    obtain ⟨a, rfl, ha⟩ := reg_of ra
    obtain ⟨b, rfl, hb⟩ := reg_of rb
    obtain ⟨c, rfl, hc⟩ := reg_of rc
    obtain rfl : n = 0 := by simpa using hn
    obtain ⟨⟨q, z⟩, hq⟩ : ∃ x, opF 7 (σ.r b) (σ.r c) = x := ⟨_, rfl⟩
    rw [show stepF i0 i1 σ ⟨27, (a : Int), (b : Int), (c : Int), 0⟩ = (if (opF 7 (σ.r b) (σ.r c)).2 then goOn σ (upd σ a (opF 7 (σ.r b) (σ.r c)).1) else .error 2) from rfl, hq]
    cases z
    · exact p27x h hpc a b c q ha hb hc hq
    · exact p27 h hpc a b c q ha hb hc hq
  by_cases e28 : op = 28
  · subst e28
    obtain ⟨-, ra, rb, rc, hn, -⟩ := order_parts hi rfl
    obtain ⟨a, rfl, ha⟩ := reg_of ra
    obtain ⟨b, rfl, hb⟩ := reg_of rb
    obtain ⟨c, rfl, hc⟩ := reg_of rc
    obtain rfl : n = 0 := by simpa using hn
    obtain ⟨⟨q, z⟩, hq⟩ : ∃ x, opF 8 (σ.r b) (σ.r c) = x := ⟨_, rfl⟩
    rw [show stepF i0 i1 σ ⟨28, (a : Int), (b : Int), (c : Int), 0⟩ = (if (opF 8 (σ.r b) (σ.r c)).2 then goOn σ (upd σ a (opF 8 (σ.r b) (σ.r c)).1) else .error 2) from rfl, hq]
    cases z
    · exact p28x h hpc a b c q ha hb hc hq
    · exact p28 h hpc a b c q ha hb hc hq
  by_cases e29 : op = 29
  · subst e29
    obtain ⟨-, ra, rb, rc, hn, -⟩ := order_parts hi rfl
    obtain ⟨a, rfl, ha⟩ := reg_of ra
    obtain ⟨b, rfl, hb⟩ := reg_of rb
    obtain ⟨c, rfl, hc⟩ := reg_of rc
    obtain rfl : n = 0 := by simpa using hn
    obtain ⟨⟨q, z⟩, hq⟩ : ∃ x, opF 9 (σ.r b) (σ.r c) = x := ⟨_, rfl⟩
    rw [show stepF i0 i1 σ ⟨29, (a : Int), (b : Int), (c : Int), 0⟩ = (if (opF 9 (σ.r b) (σ.r c)).2 then goOn σ (upd σ a (opF 9 (σ.r b) (σ.r c)).1) else .error 2) from rfl, hq]
    cases z
    · exact p29x h hpc a b c q ha hb hc hq
    · exact p29 h hpc a b c q ha hb hc hq
  omega
end
end mst
end Go.Proofs.Ytpcihajmcejliaa
