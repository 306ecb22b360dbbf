/-
  THE SHELL OF A PROOF OF 'Rows.NumDividesSaid' ('dryshod/dryshodkeep.NumDivides'), WRITTEN BY PROGRAM (proof-skeleton.mjs) off the guide's own print for that function. Not trusted: Lean checks it.
  YOURS ARE THE HOLES MARKED 'HOLE' (each bears 'sorry'). ALL ELSE IS THE GUIDE's TEMPLATE (howto/template/XProofs.lean) at this function's number and types: leave it.
-/
import Derived.Test.YtpcihajmcejliaaRows
import Derived.Test.YtpcihajmcejliaaOpIs
import Derived.WalkKit
import Derived.ProofKit
import Derived.OpenShut
namespace Go.Proofs.Ytpcihajmcejliaa.numDivides
open Go.ChangeShapes Go.WideShapes Go.ChangeAt Go.RowKit
set_option linter.unusedVariables false      -- a walk need not use every 'w<i>' (that an integer argument fits its kind)

theorem own : ownKnob Try.prog.godebug = none := by kernel_rfl

theorem divides (a b q r : Int) (ha : -9223372036854775808 ≤ a ∧ a ≤ 9223372036854775807) (hb : -9223372036854775808 ≤ b ∧ b ≤ 9223372036854775807) (h0 : b ≠ 0)
    (hq : (opF 4 a b).1 = q) (hr : (opF 5 a b).1 = r) :
    (wrap64 (wrap64 (q * b) + r) != a) = false ∧ (r = 0 ∨ (0 < r ∧ 0 ≤ a ∨ r < 0 ∧ a < 0)) ∧ (0 < b ∧ r < b ∧ -b < r ∨ b < 0 ∧ r < -b ∧ b < r) := by
  subst hq hr
  by_cases h1 : b = -1
  · subst h1
    refine ⟨?_, .inl rfl, .inr ⟨by omega, by show (0 : Int) < 1; omega, by show (-1 : Int) < 0; omega⟩⟩
    have e : (opF 4 a (-1)).1 = wrap64 (-a) := rfl
    have e' : (opF 5 a (-1)).1 = 0 := rfl
    rw [e, e', bne_eq_false_iff_eq]
    unfold wrap64; omega
  · have e : (opF 4 a b).1 = wrap64 (a.tdiv b) := by simp [opF, h0, h1]
    have e' : (opF 5 a b).1 = a.tmod b := by simp [opF, h0, h1]
    rw [e, e']
    have h2 : (a.tmod b).natAbs < b.natAbs := by rw [Int.natAbs_tmod]; exact Nat.mod_lt _ (by omega)
    refine ⟨?_, ?_, by omega⟩
    · have h3 := ref1.rem_tmod a b hb h0
      rw [bne_eq_false_iff_eq]
      generalize wrap64 (a.tdiv b) * b = y at *
      unfold wrap64 at *; omega
    · by_cases hs : 0 ≤ a
      · have := Int.tmod_nonneg b hs
        omega
      · have : 0 ≤ (-a).tmod b := Int.tmod_nonneg b (by omega)
        rw [Int.neg_tmod] at this
        omega
/-! ### STEP 1: THE WALK: the Go text returns true. 'Grown w w'': the world has at most new blocks (Derived/RowKit3.lean). Part the cases AHEAD of 'go_enter' where a test parts the walk; take each callee by a contract of your own. -/
set_option maxHeartbeats 2000000 in
theorem walk (a0 : Int) (a1 : Int) (w0 : (Lit.int .i64 a0).wf = true) (w1 : (Lit.int .i64 a1).wf = true) (w : World) :
    Calls Try.prog 4 #[.int .i64 a0, .int .i64 a1] w fun e w' => e = .returned (.bool true) ∧ Grown w w' := by
  have hb1 : -9223372036854775808 ≤ a0 ∧ a0 ≤ 9223372036854775807 := by simpa [Lit.wf, IntKind.min, IntKind.max, IntKind.signed, IntKind.bits] using w0
  have hb2 : -9223372036854775808 ≤ a1 ∧ a1 ≤ 9223372036854775807 := by simpa [Lit.wf, IntKind.min, IntKind.max, IntKind.signed, IntKind.bits] using w1
  by_cases h0 : a1 = 0
  · subst h0
    have c1 := Lib.hid (op_is 4 a0 0 0 false rfl)
    have c2 := Lib.hid (op_is 5 a0 0 0 false rfl)
    go_enter Try.func4, Try.ntmps4
    go_wp2_with fail
    refine (c1.out _).mono ?_
    rintro e w' ⟨rfl, rfl⟩
    go_wp2_with fail
    refine (c2.out _).mono ?_
    rintro e w' ⟨rfl, rfl⟩
    go_wp2_with fail
    go_ret
    exact ⟨rfl, Grown.refl _⟩
  · obtain ⟨q, hq⟩ : ∃ p, (opF 4 a0 a1).1 = p := ⟨_, rfl⟩
    obtain ⟨r, hr⟩ : ∃ p, (opF 5 a0 a1).1 = p := ⟨_, rfl⟩
    obtain ⟨f1, f2, f3⟩ := divides a0 a1 q r hb1 hb2 h0 hq hr
    have c1 := Lib.hid (op_is 4 a0 a1 q true (by rw [← hq]; simp [opF, h0]))
    have c2 := Lib.hid (op_is 5 a0 a1 r true (by rw [← hr]; simp [opF, h0]))
    have z : (a1 == 0) = false := beq_eq_false_iff_ne.2 h0
    clear hq hr h0
    have z2 : (r == 0) = true ∨ (r == 0) = false ∧ (0 < r ∧ 0 ≤ a0 ∨ r < 0 ∧ a0 < 0) := by
      rcases f2 with h | h
      · exact .inl (beq_iff_eq.2 h)
      · exact .inr ⟨beq_eq_false_iff_ne.2 (by omega), h⟩
    clear f2
    rcases z2 with z2 | ⟨z2, ⟨f4, f5⟩ | ⟨f4, f5⟩⟩ <;> rcases f3 with ⟨f6, f7, f8⟩ | ⟨f6, f7, f8⟩
    all_goals try (exfalso; omega)
    all_goals by_cases hm : a1 = -9223372036854775808
    all_goals try (exfalso; omega)
    all_goals try subst hm
    all_goals
      go_enter Try.func4, Try.ntmps4
      go_wp2_with fail
      refine (c1.out _).mono ?_
      rintro e w' ⟨rfl, rfl⟩
      go_wp2_with fail
      refine (c2.out _).mono ?_
      rintro e w' ⟨rfl, rfl⟩
      go_wp2_with fail
      all_goals go_ret
      all_goals exact ⟨rfl, Grown.refl _⟩

/-! ### THE ROW's STEP: WRITTEN OUT: LEAVE IT -/
set_option maxRecDepth 100000 in
theorem lifted (os : Os) (started : os.Started) (H : Type) (enc : TypeId × Value → H) :
    ReturnsInHanded {} Try.checked os 4 .any (Rows.numDividesSpec.pre6 enc Try.prog Try.f4 Rows.numDividesRow.domain false) (Rows.numDividesSpec.post enc Try.prog Try.f4 false true false false) := by
  refine returnsInHanded_of_change (C := Try.checked) own started (by kernel_rfl) Try.func4
    (ChangeSpec.witness6 (enc := enc) (C := Try.checked) false ⟨#[], #[.int .i64 0, .int .i64 0], []⟩ 8 (by kernel_rfl) (by kernel_rfl) (by kernel_rfl) (by kernel_rfl)) ?_
  intro W base args ds gs before hval0 hW hcnd _
  have hval : ∀ (j : Nat) t v, Try.f4.params[j]? = some t → args[j]? = some v → Value.okWide Try.prog W .any base t v := hval0
  have hW' := hW
  obtain ⟨p, q, hA0, hV, rfl, hfz, hnd⟩ := hW
  have hA : DataW.TrodAll enc Try.prog W 0 (fun _ => true) true Try.f4.params.toList args.toList ds p := hA0
  rw [Try.params4] at hA hval
  obtain ⟨v0, vs0, d0, ds0, p0, q0, hargs, rfl, rfl, h0, r0⟩ := trodAll_cons hA
  obtain ⟨v1, vs1, d1, ds1, p1, q1, rfl, rfl, rfl, h1, r1⟩ := trodAll_cons r0
  obtain ⟨rfl, rfl, rfl⟩ := trodAll_nil r1
  obtain rfl : args = #[v0, v1] := by cases args; simp_all
  obtain ⟨rfl, rfl⟩ := trodVars_none hV
  obtain ⟨a0, rfl, rfl, rfl, w0⟩ := open_int Try.underlying2 (hval 0 2 v0 rfl rfl) h0
  obtain ⟨a1, rfl, rfl, rfl, w1⟩ := open_int Try.underlying2 (hval 1 2 v1 rfl rfl) h1
  clear hA0 hval0
  simp only [List.append_nil] at hW'
  refine (walk a0 a1 w0 w1 W).mono fun e W' ⟨he, hg⟩ => ?_
  subst he
  exact ⟨_, rfl, post_of_same (pa := []) (pv := []) hW' (fun _ _ _ => (trodAll_cons_mk (shut_bool Try.underlying4 _) trodAll_mk0)) (fun sp _ => (trodAll_cons_mk (shut_int Try.underlying2 w0) (trodAll_cons_mk (shut_int Try.underlying2 w1) trodAll_mk0))) (fun _ _ => rfl) rfl
    (hg.frame _) hg.2.1 (ok_one (by kernel_rfl) rfl (okWide_bool_mk Try.underlying4 _))⟩

theorem over : Rows.numDividesRow.holds Try.pinned (OpenSpec.ofChange Rows.numDividesSpec) :=
  OpenClaim.holds_of_wide 4 Try.f4 rfl rfl rfl rfl rfl rfl rfl ⟨rfl, rfl, rfl, rfl, rfl⟩ rfl rfl rfl rfl rfl (by kernel_rfl) Try.func4 (by kernel_rfl)
    (of_decide_eq_true (by kernel_rfl)) (by unfold Func.isWrapper; first | (rw [if_pos (by decide +kernel)]; kernel_rfl) | (rw [if_neg (by decide +kernel)]; exact ⟨rfl, rfl⟩))
    (fun os started H enc _ => lifted os started H enc)

/-- ████ THE STATEMENT ████ -/
theorem proved : Rows.NumDividesSaid :=
  over
#print axioms proved
end Go.Proofs.Ytpcihajmcejliaa.numDivides
