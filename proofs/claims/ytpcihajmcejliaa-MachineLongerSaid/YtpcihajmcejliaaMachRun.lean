/- Runs of a machine, in plain Lean: what stays in bounds, and that more fuel goes on as less began. -/
import Derived.Test.YtpcihajmcejliaaMachStepAny
import Derived.Test.YtpcihajmcejliaaNumMath
namespace Go.Proofs.Ytpcihajmcejliaa
open Go.RowKit
def okI (n : Int) : Prop := -9223372036854775808 ≤ n ∧ n ≤ 9223372036854775807
/-- a run: how it ends (nought: its fuel is used up), how many steps it has done, the machine then -/
def runF (code : List Ins) (i0 i1 : List Int) : Nat → Mst → Int × Nat × Mst
  | 0, σ => (0, 0, σ)
  | n + 1, σ =>
    if h : σ.pc.toNat < code.length then
      match stepF i0 i1 σ code[σ.pc.toNat] with
      | .ok τ => ((runF code i0 i1 n τ).1, (runF code i0 i1 n τ).2.1 + 1, (runF code i0 i1 n τ).2.2)
      | .error x => (x, 1, σ)
    else (6, 0, σ)
/-- a machine in bounds, behind at most k steps -/
structure Good (len k : Nat) (σ : Mst) : Prop where
  pc : 0 ≤ σ.pc ∧ σ.pc ≤ len
  calls : ∀ c ∈ σ.calls, (0 : Int) ≤ c ∧ c ≤ len
  deep : σ.calls.length ≤ 30
  o0 : σ.o0.length ≤ k
  o1 : σ.o1.length ≤ k
  r : ∀ j, okI (σ.r j)
  lo : ∀ x ∈ σ.lo, okI x
  hi : ∀ x ∈ σ.hi, okI x
namespace mst
theorem okI_wrap (n : Int) : okI (wrap64 n) := by unfold okI wrap64; omega
theorem okI0 : okI 0 := ⟨by decide, by decide⟩
theorem okI1 : okI 1 := ⟨by decide, by decide⟩
theorem okI_mod {a b : Int} (hb : okI b) (h : b ≠ 0) : okI (a.tmod b) := by
  have h1 : (a.tmod b).natAbs < b.natAbs := by rw [Int.natAbs_tmod]; exact Nat.mod_lt _ (by omega)
  unfold okI at *
  omega
theorem opF_ok (n a b : Int) (hb : okI b) : okI (opF n a b).1 := by
  unfold opF
  repeat' split
  all_goals first | exact okI_wrap _ | exact okI0 | exact okI1 | (show okI (bits .and .i64 a b); rw [bits_and_sum]; exact okI_wrap _) | (show okI (bits .or .i64 a b); rw [bits_or_sum]; exact okI_wrap _) | exact okI_mod hb (by assumption)
theorem getD_ok {l : List Int} (h : ∀ x ∈ l, okI x) (k : Nat) : okI (l.getD k 0) := by
  rw [List.getD_eq_getElem?_getD]
  cases hk : l[k]? with
  | none => exact okI0
  | some x => exact h x (List.mem_of_getElem? hk)
theorem set_ok {l : List Int} (h : ∀ x ∈ l, okI x) (k : Nat) {v : Int} (hv : okI v) : ∀ x ∈ l.set k v, okI x := fun x hx => by
  rcases List.mem_or_eq_of_mem_set hx with h' | rfl
  · exact h x h'
  · exact hv
theorem upd_ok {σ : Mst} (h : ∀ j, okI (σ.r j)) (a : Nat) {v : Int} (hv : okI v) : ∀ j, okI ((upd σ a v).r j) := fun j => by
  unfold upd
  by_cases e : j = a
  · simp [e]; exact hv
  · simp [e]; exact h j
theorem ite_pc {P : Prop} [Decidable P] {a b h : Int} (ha : 0 ≤ a ∧ a ≤ h) (hb : 0 ≤ b ∧ b ≤ h) : 0 ≤ (if P then a else b) ∧ (if P then a else b) ≤ h := by split <;> assumption
theorem calls_push {l : List Int} {x h : Int} (hl : ∀ c ∈ l, 0 ≤ c ∧ c ≤ h) (hx : 0 ≤ x ∧ x ≤ h) : ∀ c ∈ l ++ [x], 0 ≤ c ∧ c ≤ h := fun c hc => by
  rcases List.mem_append.1 hc with hc | hc
  · exact hl c hc
  · simp at hc; subst hc; exact hx
theorem calls_getD {l : List Int} {h : Int} (hl : ∀ c ∈ l, 0 ≤ c ∧ c ≤ h) {k : Nat} (hk : k < l.length) : 0 ≤ l.getD k 0 ∧ l.getD k 0 ≤ h := by
  rw [List.getD_eq_getElem?_getD, List.getElem?_eq_getElem hk]
  exact hl _ (List.getElem_mem _)
/-- a step of a machine in bounds leads to one in bounds -/
theorem step_good {len k : Nat} {i0 i1 : List Int} {σ τ : Mst} {i : Ins} (g : Good len k σ) (hp : σ.pc < len) (hi : orderB i len = true) (hn : okI i.n) (h0 : ∀ x ∈ i0, okI x) (h1 : ∀ x ∈ i1, okI x)
    (hs : stepF i0 i1 σ i = .ok τ) : Good len (k + 1) τ := by
  have hnext : 0 ≤ σ.pc + 1 ∧ σ.pc + 1 ≤ (len : Int) := ⟨by have := g.pc; omega, by omega⟩
  have hw : Good len (k + 1) σ := ⟨g.pc, g.calls, g.deep, Nat.le_succ_of_le g.o0, Nat.le_succ_of_le g.o1, g.r, g.lo, g.hi⟩
  have hlast : (i.op = 8 ∨ i.op = 9 ∨ i.op = 11) → 0 ≤ i.n ∧ i.n ≤ (len : Int) := by
    intro ho
    obtain ⟨op, a, b, c, n⟩ := i
    obtain ⟨-, -, -, -, -, hl⟩ := order_parts hi rfl
    rw [lastB_j ho] at hl
    simp only [Bool.and_eq_true, decide_eq_true_eq] at hl
    exact ⟨hl.1, by have := hl.2; show n ≤ _; omega⟩
  unfold stepF goOn at hs
  by_cases e1 : i.op = 1
  · rw [if_pos e1] at hs
    obtain rfl := Except.ok.inj hs
    exact ⟨hnext, hw.calls, hw.deep, hw.o0, hw.o1, upd_ok g.r _ hn, hw.lo, hw.hi⟩
  rw [if_neg e1] at hs
  by_cases e2 : i.op = 2
  · rw [if_pos e2] at hs
    obtain rfl := Except.ok.inj hs
    exact ⟨hnext, hw.calls, hw.deep, hw.o0, hw.o1, upd_ok g.r _ (g.r _), hw.lo, hw.hi⟩
  rw [if_neg e2] at hs
  by_cases e3 : i.op = 3
  · rw [if_pos e3] at hs
    obtain rfl := Except.ok.inj hs
    exact ⟨hnext, hw.calls, hw.deep, hw.o0, hw.o1, upd_ok g.r _ (okI_wrap _), hw.lo, hw.hi⟩
  rw [if_neg e3] at hs
  by_cases e4 : i.op = 4
  · rw [if_pos e4] at hs
    split at hs
    · obtain rfl := Except.ok.inj hs
      exact ⟨hnext, hw.calls, hw.deep, hw.o0, hw.o1, upd_ok g.r _ (getD_ok g.lo _), hw.lo, hw.hi⟩
    · cases hs
  rw [if_neg e4] at hs
  by_cases e5 : i.op = 5
  · rw [if_pos e5] at hs
    split at hs
    · obtain rfl := Except.ok.inj hs
      exact ⟨hnext, hw.calls, hw.deep, hw.o0, hw.o1, upd_ok g.r _ (getD_ok g.hi _), hw.lo, hw.hi⟩
    · cases hs
  rw [if_neg e5] at hs
  by_cases e6 : i.op = 6
  · rw [if_pos e6] at hs
    split at hs
    · obtain rfl := Except.ok.inj hs
      exact ⟨hnext, hw.calls, hw.deep, hw.o0, hw.o1, hw.r, set_ok g.lo _ (g.r _), hw.hi⟩
    · cases hs
  rw [if_neg e6] at hs
  by_cases e7 : i.op = 7
  · rw [if_pos e7] at hs
    split at hs
    · obtain rfl := Except.ok.inj hs
      exact ⟨hnext, hw.calls, hw.deep, hw.o0, hw.o1, hw.r, hw.lo, set_ok g.hi _ (g.r _)⟩
    · cases hs
  rw [if_neg e7] at hs
  by_cases e8 : i.op = 8
  · rw [if_pos e8] at hs
    obtain rfl := Except.ok.inj hs
    exact ⟨hlast (.inl e8), hw.calls, hw.deep, hw.o0, hw.o1, hw.r, hw.lo, hw.hi⟩
  rw [if_neg e8] at hs
  by_cases e9 : i.op = 9
  · rw [if_pos e9] at hs
    obtain rfl := Except.ok.inj hs
    exact ⟨ite_pc (hlast (.inr (.inl e9))) hnext, hw.calls, hw.deep, hw.o0, hw.o1, hw.r, hw.lo, hw.hi⟩
  rw [if_neg e9] at hs
  by_cases e10 : i.op = 10
  · rw [if_pos e10] at hs
    split at hs
    · obtain rfl := Except.ok.inj hs
      exact ⟨hnext, hw.calls, hw.deep, hw.o0, hw.o1, hw.r, hw.lo, hw.hi⟩
    · cases hs
  rw [if_neg e10] at hs
  by_cases e11 : i.op = 11
  · rw [if_pos e11] at hs
    split at hs
    · obtain rfl := Except.ok.inj hs
      exact ⟨hlast (.inr (.inr e11)), calls_push g.calls hnext, by simp; omega, hw.o0, hw.o1, hw.r, hw.lo, hw.hi⟩
    · cases hs
  rw [if_neg e11] at hs
  by_cases e12 : i.op = 12
  · rw [if_pos e12] at hs
    split at hs
    · cases hs
    · obtain rfl := Except.ok.inj hs
      exact ⟨calls_getD g.calls (by omega), fun c hc => g.calls c (List.mem_of_mem_take hc), by have := g.deep; simp; omega, hw.o0, hw.o1, hw.r, hw.lo, hw.hi⟩
  rw [if_neg e12] at hs
  by_cases e13 : i.op = 13
  · rw [if_pos e13] at hs
    obtain rfl := Except.ok.inj hs
    exact ⟨hnext, hw.calls, hw.deep, by simpa using g.o0, hw.o1, hw.r, hw.lo, hw.hi⟩
  rw [if_neg e13] at hs
  by_cases e14 : i.op = 14
  · rw [if_pos e14] at hs
    obtain rfl := Except.ok.inj hs
    exact ⟨hnext, hw.calls, hw.deep, hw.o0, by simpa using g.o1, hw.r, hw.lo, hw.hi⟩
  rw [if_neg e14] at hs
  by_cases e15 : i.op = 15
  · rw [if_pos e15] at hs
    split at hs
    · obtain rfl := Except.ok.inj hs
      exact ⟨hnext, hw.calls, hw.deep, hw.o0, hw.o1, upd_ok g.r _ (getD_ok h0 _), hw.lo, hw.hi⟩
    · cases hs
  rw [if_neg e15] at hs
  by_cases e16 : i.op = 16
  · rw [if_pos e16] at hs
    split at hs
    · obtain rfl := Except.ok.inj hs
      exact ⟨hnext, hw.calls, hw.deep, hw.o0, hw.o1, upd_ok g.r _ (getD_ok h1 _), hw.lo, hw.hi⟩
    · cases hs
  rw [if_neg e16] at hs
  by_cases e17 : i.op = 17
  · rw [if_pos e17] at hs; cases hs
  rw [if_neg e17] at hs
  split at hs
  · obtain rfl := Except.ok.inj hs
    exact ⟨hnext, hw.calls, hw.deep, hw.o0, hw.o1, upd_ok g.r _ (opF_ok _ _ _ (g.r _)), hw.lo, hw.hi⟩
  · cases hs
theorem step_end {i0 i1 : List Int} {σ : Mst} {i : Ins} {x : Int} (hs : stepF i0 i1 σ i = .error x) : 1 ≤ x ∧ x ≤ 6 := by
  unfold stepF goOn at hs
  by_cases e1 : i.op = 1
  · rw [if_pos e1] at hs
    cases hs
  rw [if_neg e1] at hs
  by_cases e2 : i.op = 2
  · rw [if_pos e2] at hs
    cases hs
  rw [if_neg e2] at hs
  by_cases e3 : i.op = 3
  · rw [if_pos e3] at hs
    cases hs
  rw [if_neg e3] at hs
  by_cases e4 : i.op = 4
  · rw [if_pos e4] at hs
    split at hs
    · cases hs
    · cases hs; exact ⟨by decide, by decide⟩
  rw [if_neg e4] at hs
  by_cases e5 : i.op = 5
  · rw [if_pos e5] at hs
    split at hs
    · cases hs
    · cases hs; exact ⟨by decide, by decide⟩
  rw [if_neg e5] at hs
  by_cases e6 : i.op = 6
  · rw [if_pos e6] at hs
    split at hs
    · cases hs
    · cases hs; exact ⟨by decide, by decide⟩
  rw [if_neg e6] at hs
  by_cases e7 : i.op = 7
  · rw [if_pos e7] at hs
    split at hs
    · cases hs
    · cases hs; exact ⟨by decide, by decide⟩
  rw [if_neg e7] at hs
  by_cases e8 : i.op = 8
  · rw [if_pos e8] at hs
    cases hs
  rw [if_neg e8] at hs
  by_cases e9 : i.op = 9
  · rw [if_pos e9] at hs
    cases hs
  rw [if_neg e9] at hs
  by_cases e10 : i.op = 10
  · rw [if_pos e10] at hs
    split at hs
    · cases hs
    · cases hs; exact ⟨by decide, by decide⟩
  rw [if_neg e10] at hs
  by_cases e11 : i.op = 11
  · rw [if_pos e11] at hs
    split at hs
    · cases hs
    · cases hs; exact ⟨by decide, by decide⟩
  rw [if_neg e11] at hs
  by_cases e12 : i.op = 12
  · rw [if_pos e12] at hs
    split at hs
    · cases hs; exact ⟨by decide, by decide⟩
    · cases hs
  rw [if_neg e12] at hs
  by_cases e13 : i.op = 13
  · rw [if_pos e13] at hs
    cases hs
  rw [if_neg e13] at hs
  by_cases e14 : i.op = 14
  · rw [if_pos e14] at hs
    cases hs
  rw [if_neg e14] at hs
  by_cases e15 : i.op = 15
  · rw [if_pos e15] at hs
    split at hs
    · cases hs
    · cases hs; exact ⟨by decide, by decide⟩
  rw [if_neg e15] at hs
  by_cases e16 : i.op = 16
  · rw [if_pos e16] at hs
    split at hs
    · cases hs
    · cases hs; exact ⟨by decide, by decide⟩
  rw [if_neg e16] at hs
  by_cases e17 : i.op = 17
  · rw [if_pos e17] at hs; cases hs; exact ⟨by decide, by decide⟩
  rw [if_neg e17] at hs
  split at hs
  · cases hs
  · cases hs; exact ⟨by decide, by decide⟩
theorem step_begins {i0 i1 : List Int} {σ τ : Mst} {i : Ins} (hs : stepF i0 i1 σ i = .ok τ) : σ.o0 <+: τ.o0 ∧ σ.o1 <+: τ.o1 := by
  unfold stepF goOn at hs
  by_cases e1 : i.op = 1
  · rw [if_pos e1] at hs
    obtain rfl := Except.ok.inj hs; exact ⟨List.prefix_refl _, List.prefix_refl _⟩
  rw [if_neg e1] at hs
  by_cases e2 : i.op = 2
  · rw [if_pos e2] at hs
    obtain rfl := Except.ok.inj hs; exact ⟨List.prefix_refl _, List.prefix_refl _⟩
  rw [if_neg e2] at hs
  by_cases e3 : i.op = 3
  · rw [if_pos e3] at hs
    obtain rfl := Except.ok.inj hs; exact ⟨List.prefix_refl _, List.prefix_refl _⟩
  rw [if_neg e3] at hs
  by_cases e4 : i.op = 4
  · rw [if_pos e4] at hs
    split at hs
    · obtain rfl := Except.ok.inj hs; exact ⟨List.prefix_refl _, List.prefix_refl _⟩
    · cases hs
  rw [if_neg e4] at hs
  by_cases e5 : i.op = 5
  · rw [if_pos e5] at hs
    split at hs
    · obtain rfl := Except.ok.inj hs; exact ⟨List.prefix_refl _, List.prefix_refl _⟩
    · cases hs
  rw [if_neg e5] at hs
  by_cases e6 : i.op = 6
  · rw [if_pos e6] at hs
    split at hs
    · obtain rfl := Except.ok.inj hs; exact ⟨List.prefix_refl _, List.prefix_refl _⟩
    · cases hs
  rw [if_neg e6] at hs
  by_cases e7 : i.op = 7
  · rw [if_pos e7] at hs
    split at hs
    · obtain rfl := Except.ok.inj hs; exact ⟨List.prefix_refl _, List.prefix_refl _⟩
    · cases hs
  rw [if_neg e7] at hs
  by_cases e8 : i.op = 8
  · rw [if_pos e8] at hs
    obtain rfl := Except.ok.inj hs; exact ⟨List.prefix_refl _, List.prefix_refl _⟩
  rw [if_neg e8] at hs
  by_cases e9 : i.op = 9
  · rw [if_pos e9] at hs
    obtain rfl := Except.ok.inj hs; exact ⟨List.prefix_refl _, List.prefix_refl _⟩
  rw [if_neg e9] at hs
  by_cases e10 : i.op = 10
  · rw [if_pos e10] at hs
    split at hs
    · obtain rfl := Except.ok.inj hs; exact ⟨List.prefix_refl _, List.prefix_refl _⟩
    · cases hs
  rw [if_neg e10] at hs
  by_cases e11 : i.op = 11
  · rw [if_pos e11] at hs
    split at hs
    · obtain rfl := Except.ok.inj hs; exact ⟨List.prefix_refl _, List.prefix_refl _⟩
    · cases hs
  rw [if_neg e11] at hs
  by_cases e12 : i.op = 12
  · rw [if_pos e12] at hs
    split at hs
    · cases hs
    · obtain rfl := Except.ok.inj hs; exact ⟨List.prefix_refl _, List.prefix_refl _⟩
  rw [if_neg e12] at hs
  by_cases e13 : i.op = 13
  · rw [if_pos e13] at hs
    obtain rfl := Except.ok.inj hs; exact ⟨List.prefix_append _ _, List.prefix_refl _⟩
  rw [if_neg e13] at hs
  by_cases e14 : i.op = 14
  · rw [if_pos e14] at hs
    obtain rfl := Except.ok.inj hs; exact ⟨List.prefix_refl _, List.prefix_append _ _⟩
  rw [if_neg e14] at hs
  by_cases e15 : i.op = 15
  · rw [if_pos e15] at hs
    split at hs
    · obtain rfl := Except.ok.inj hs; exact ⟨List.prefix_refl _, List.prefix_refl _⟩
    · cases hs
  rw [if_neg e15] at hs
  by_cases e16 : i.op = 16
  · rw [if_pos e16] at hs
    split at hs
    · obtain rfl := Except.ok.inj hs; exact ⟨List.prefix_refl _, List.prefix_refl _⟩
    · cases hs
  rw [if_neg e16] at hs
  by_cases e17 : i.op = 17
  · rw [if_pos e17] at hs; cases hs
  rw [if_neg e17] at hs
  split at hs
  · obtain rfl := Except.ok.inj hs; exact ⟨List.prefix_refl _, List.prefix_refl _⟩
  · cases hs
theorem run_steps (code : List Ins) (i0 i1 : List Int) : ∀ (n : Nat) (σ : Mst), (runF code i0 i1 n σ).2.1 ≤ n := by
  intro n
  induction n with
  | zero => intro σ; exact Nat.le_refl _
  | succ n ih =>
    intro σ
    rw [runF]
    split
    · split
      · exact Nat.succ_le_succ (ih _)
      · exact Nat.le_add_left 1 n
    · exact Nat.zero_le _
theorem run_all (code : List Ins) (i0 i1 : List Int) : ∀ (n : Nat) (σ : Mst), (runF code i0 i1 n σ).1 = 0 → (runF code i0 i1 n σ).2.1 = n := by
  intro n
  induction n with
  | zero => intro σ _; rfl
  | succ n ih =>
    intro σ h
    rw [runF] at h ⊢
    by_cases hc : σ.pc.toNat < code.length
    · rw [dif_pos hc] at h ⊢
      cases hs : stepF i0 i1 σ code[σ.pc.toNat] with
      | error x =>
        rw [hs] at h
        have := (step_end hs).1
        simp only at h
        omega
      | ok τ =>
        rw [hs] at h
        simp only at h ⊢
        rw [ih _ h]
    · rw [dif_neg hc] at h
      simp at h
theorem run_more (code : List Ins) (i0 i1 : List Int) : ∀ (n m : Nat) (σ : Mst), n ≤ m → (runF code i0 i1 n σ).1 ≠ 0 → runF code i0 i1 m σ = runF code i0 i1 n σ := by
  intro n
  induction n with
  | zero => intro m σ _ h; exact absurd rfl h
  | succ n ih =>
    intro m σ hm h
    obtain ⟨m, rfl⟩ : ∃ m', m = m' + 1 := ⟨m - 1, by omega⟩
    rw [runF] at h
    rw [runF, runF]
    by_cases hc : σ.pc.toNat < code.length
    · rw [dif_pos hc] at h
      rw [dif_pos hc, dif_pos hc]
      cases hs : stepF i0 i1 σ code[σ.pc.toNat] with
      | error x => rfl
      | ok τ =>
        rw [hs] at h
        simp only at h ⊢
        rw [ih m τ (by omega) h]
    · rw [dif_neg hc, dif_neg hc]
theorem run_begins (code : List Ins) (i0 i1 : List Int) : ∀ (m : Nat) (σ : Mst), σ.o0 <+: (runF code i0 i1 m σ).2.2.o0 ∧ σ.o1 <+: (runF code i0 i1 m σ).2.2.o1 := by
  intro m
  induction m with
  | zero => intro σ; exact ⟨List.prefix_refl _, List.prefix_refl _⟩
  | succ m ih =>
    intro σ
    rw [runF]
    by_cases hc : σ.pc.toNat < code.length
    · rw [dif_pos hc]
      cases hs : stepF i0 i1 σ code[σ.pc.toNat] with
      | error x => exact ⟨List.prefix_refl _, List.prefix_refl _⟩
      | ok τ => exact ⟨(step_begins hs).1.trans (ih τ).1, (step_begins hs).2.trans (ih τ).2⟩
    · rw [dif_neg hc]
      exact ⟨List.prefix_refl _, List.prefix_refl _⟩
/-- more fuel goes on as less began -/
theorem run_on (code : List Ins) (i0 i1 : List Int) : ∀ (n m : Nat) (σ : Mst), n ≤ m → (runF code i0 i1 n σ).2.2.o0 <+: (runF code i0 i1 m σ).2.2.o0 ∧ (runF code i0 i1 n σ).2.2.o1 <+: (runF code i0 i1 m σ).2.2.o1 ∧ (runF code i0 i1 n σ).2.1 ≤ (runF code i0 i1 m σ).2.1 := by
  intro n
  induction n with
  | zero => intro m σ _; exact ⟨(run_begins code i0 i1 m σ).1, (run_begins code i0 i1 m σ).2, Nat.zero_le _⟩
  | succ n ih =>
    intro m σ hm
    obtain ⟨m, rfl⟩ : ∃ m', m = m' + 1 := ⟨m - 1, by omega⟩
    rw [runF, runF]
    by_cases hc : σ.pc.toNat < code.length
    · rw [dif_pos hc, dif_pos hc]
      cases hs : stepF i0 i1 σ code[σ.pc.toNat] with
      | error x => exact ⟨List.prefix_refl _, List.prefix_refl _, Nat.le_refl _⟩
      | ok τ =>
        obtain ⟨h1, h2, h3⟩ := ih m τ (by omega)
        exact ⟨h1, h2, Nat.succ_le_succ h3⟩
    · rw [dif_neg hc, dif_neg hc]
      exact ⟨List.prefix_refl _, List.prefix_refl _, Nat.le_refl _⟩
theorem run_good (code : List Ins) (i0 i1 : List Int) (hc : ∀ i ∈ code, orderB i code.length = true ∧ okI i.n) (h0 : ∀ x ∈ i0, okI x) (h1 : ∀ x ∈ i1, okI x) : ∀ (n k : Nat) (σ : Mst), Good code.length k σ → Good code.length (k + n) (runF code i0 i1 n σ).2.2 := by
  intro n
  induction n with
  | zero => intro k σ g; exact g
  | succ n ih =>
    intro k σ g
    have hw : Good code.length (k + (n + 1)) σ := ⟨g.pc, g.calls, g.deep, Nat.le_trans g.o0 (by omega), Nat.le_trans g.o1 (by omega), g.r, g.lo, g.hi⟩
    rw [runF]
    by_cases hp : σ.pc.toNat < code.length
    · rw [dif_pos hp]
      have hi := hc _ (List.getElem_mem hp)
      cases hs : stepF i0 i1 σ code[σ.pc.toNat] with
      | error x => exact hw
      | ok τ =>
        have := ih (k + 1) τ (step_good g (by have := g.pc; omega) hi.1 hi.2 h0 h1 hs)
        rw [show k + (n + 1) = k + 1 + n by omega]
        exact this
    · rw [dif_neg hp]
      exact hw
theorem run_go {code : List Ins} {i0 i1 : List Int} {σ τ : Mst} {k p : Nat} (hp : σ.pc = p) (hl : p < code.length) (hs : stepF i0 i1 σ code[p] = .ok τ) : runF code i0 i1 (k + 1) σ = ((runF code i0 i1 k τ).1, (runF code i0 i1 k τ).2.1 + 1, (runF code i0 i1 k τ).2.2) := by
  obtain ⟨r, lo, hi, calls, pc, o0, o1, u0, u1⟩ := σ
  dsimp only at hp
  subst hp
  rw [runF, dif_pos (show ((p : Int)).toNat < code.length from hl)]
  have : stepF i0 i1 { r := r, lo := lo, hi := hi, calls := calls, pc := (p : Int), o0 := o0, o1 := o1, u0 := u0, u1 := u1 } code[((p : Int)).toNat] = .ok τ := hs
  dsimp only
  rw [this]
theorem run_err {code : List Ins} {i0 i1 : List Int} {σ : Mst} {x : Int} {k p : Nat} (hp : σ.pc = p) (hl : p < code.length) (hs : stepF i0 i1 σ code[p] = .error x) : runF code i0 i1 (k + 1) σ = (x, 1, σ) := by
  obtain ⟨r, lo, hi, calls, pc, o0, o1, u0, u1⟩ := σ
  dsimp only at hp
  subst hp
  rw [runF, dif_pos (show ((p : Int)).toNat < code.length from hl)]
  have : stepF i0 i1 { r := r, lo := lo, hi := hi, calls := calls, pc := (p : Int), o0 := o0, o1 := o1, u0 := u0, u1 := u1 } code[((p : Int)).toNat] = .error x := hs
  dsimp only
  rw [this]
theorem run_off {code : List Ins} {i0 i1 : List Int} {σ : Mst} {k p : Nat} (hp : σ.pc = p) (hl : ¬ p < code.length) : runF code i0 i1 (k + 1) σ = (6, 0, σ) := by
  rw [runF, dif_neg (by rw [hp]; exact hl)]
end mst
end Go.Proofs.Ytpcihajmcejliaa
