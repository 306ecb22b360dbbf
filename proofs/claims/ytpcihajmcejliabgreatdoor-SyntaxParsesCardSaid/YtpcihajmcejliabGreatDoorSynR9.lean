/- The reference's reader: every reading function, at every fuel. -/
import Derived.Test.YtpcihajmcejliabGreatDoorSynR5
import Derived.Test.YtpcihajmcejliabGreatDoorSynR8
namespace Go.Proofs.YtpcihajmcejliabGreatDoor
open Go.RowKit
namespace synr
open synw
theorem expr_rc {b0 g0 : Bool} {n : Nat} (dB : RC b0 true n (.bound 0)) : RC b0 g0 (n + 1) .expr := by
  intro W w S l b f a h hb hg he ha hne
  simp only [rArgs, Option.some.injEq, Prod.mk.injEq] at he
  obtain ⟨rfl, rfl⟩ := he
  exact expr_step dB h hb hg hne
theorem place_rc {b0 g0 : Bool} {n : Nat} {s : ByteArray} (dX : RC b0 true n .expr) : RC b0 g0 (n + 1) (.place s) := by
  intro W w S l b f a h hb hg he ha hne
  simp only [rArgs, Option.some.injEq, Prod.mk.injEq] at he
  obtain ⟨rfl, rfl⟩ := he
  exact place_step dX h hb hg ha hne
theorem call_rc {b0 g0 : Bool} {n : Nat} {s : ByteArray} (dG : ∀ m, m ≤ n → RC b0 true m .expr) : RC b0 g0 (n + 1) (.call s) := by
  intro W w S l b f a h hb hg he ha hne
  simp only [rArgs, Option.some.injEq, Prod.mk.injEq] at he
  obtain ⟨rfl, rfl⟩ := he
  exact call_step dG h hb hg ha hne
theorem asked_rc {b0 g0 : Bool} {n : Nat} (dX : RC b0 false n .expr) : RC b0 g0 (n + 1) .asked := by
  intro W w S l b f a h hb hg he ha hne
  simp only [rArgs, Option.some.injEq, Prod.mk.injEq] at he
  obtain ⟨rfl, rfl⟩ := he
  exact asked_step dX h hb hg hne
theorem unary_rc {b0 g0 : Bool} {n : Nat} (dU : RC b0 true n .unary) (dA : RC b0 true n .asked) (dC : ∀ s, RC b0 true n (.call s)) (dP : ∀ s, RC b0 false n (.place s)) : RC b0 g0 (n + 1) .unary := by
  intro W w S l b f a h hb hg he ha hne
  simp only [rArgs, Option.some.injEq, Prod.mk.injEq] at he
  obtain ⟨rfl, rfl⟩ := he
  exact unary_step dU dA dC dP h hb hg hne
theorem bound_rc {b0 g0 : Bool} {n : Nat} {k : Nat} (dU : RC b0 false n .unary) (dB : RC b0 false n (.bound (k + 1))) (dG : ∀ m, m ≤ n → RC b0 true m (.bound (k + 1))) : RC b0 g0 (n + 1) (.bound k) := by
  intro W w S l b f a h hb hg he ha hne
  simp only [rArgs, Option.some.injEq, Prod.mk.injEq] at he
  obtain ⟨rfl, rfl⟩ := he
  exact bound_step dU dB dG h hb hg ha hne
theorem block_rc {b0 g0 : Bool} {n : Nat} (dG : ∀ m, m ≤ n → RC b0 true m .stat) : RC b0 g0 (n + 1) .block := by
  intro W w S l b f a h hb hg he ha hne
  simp only [rArgs, Option.some.injEq, Prod.mk.injEq] at he
  obtain ⟨rfl, rfl⟩ := he
  exact block_step dG h hb hg hne
theorem stat_rc {b0 g0 : Bool} {n : Nat} (dA : RC b0 true n .asked) (dK : RC b0 false n .block) (dX : RC b0 false n .expr) (dC : ∀ s, RC b0 false n (.call s)) (dP : ∀ s, RC b0 false n (.place s)) : RC b0 g0 (n + 1) .stat := by
  intro W w S l b f a h hb hg he ha hne
  simp only [rArgs, Option.some.injEq, Prod.mk.injEq] at he
  obtain ⟨rfl, rfl⟩ := he
  exact stat_step dA dK dX dC dP h hb hg hne
theorem decl_rc {b0 g0 : Bool} {n : Nat} (dK : ∀ m, m ≤ n → RC b0 false m .block) : RC b0 g0 (n + 1) .decl := by
  intro W w S l b f a h hb hg he ha hne
  simp only [rArgs, Option.some.injEq, Prod.mk.injEq] at he
  obtain ⟨rfl, rfl⟩ := he
  exact decl_step dK h hb hg hne
theorem bad_expr (n : Nat) : RC true false n .expr := rc_fuel (n := 1) (expr_rc rc_none)
theorem bad_place (n : Nat) (s : ByteArray) : RC true false n (.place s) := rc_fuel (n := 1) (place_rc rc_none)
theorem bad_call (n : Nat) (s : ByteArray) : RC true false n (.call s) := rc_fuel (n := 1) (call_rc fun _ _ => rc_none)
theorem bad_asked (n : Nat) : RC true false n .asked := rc_fuel (n := 1) (asked_rc (bad_expr 0))
theorem bad_unary (n : Nat) : RC true false n .unary := rc_fuel (n := 1) (unary_rc rc_none rc_none (fun _ => rc_none) (fun s => bad_place 0 s))
theorem far_bound {b0 g0 : Bool} {n k : Nat} (hk : 3 < k) : RC b0 g0 n (.bound k) := by
  intro W w S l b f a h hb hg he ha hne
  have : k ≤ 3 := ha
  omega
theorem bad_bound (n k : Nat) : RC true false n (.bound k) := by
  have step : ∀ k, RC true false 0 (.bound (k + 1)) → RC true false 0 (.bound k) := fun k h => rc_fuel (n := 1) (bound_rc (bad_unary 0) h fun _ _ => rc_none)
  have h4 : RC true false 0 (.bound 4) := far_bound (by decide)
  have h3 : RC true false 0 (.bound 3) := step 3 h4
  have h2 : RC true false 0 (.bound 2) := step 2 h3
  have h1 : RC true false 0 (.bound 1) := step 1 h2
  have h0 : RC true false 0 (.bound 0) := step 0 h1
  have hz : RC true false 0 (.bound k) := by
    match k with
    | 0 => exact @h0
    | 1 => exact @h1
    | 2 => exact @h2
    | 3 => exact @h3
    | k + 4 => exact @far_bound true false 0 (k + 4) (by omega)
  exact @rc_fuel false 0 n (.bound k) @hz
theorem bad_block (n : Nat) : RC true false n .block := rc_fuel (n := 1) (block_rc fun _ _ => rc_none)
theorem bad_stat (n : Nat) : RC true false n .stat := rc_fuel (n := 1) (stat_rc rc_none (bad_block 0) (bad_expr 0) (bad_call 0) (bad_place 0))
theorem bad_decl (n : Nat) : RC true false n .decl := rc_fuel (n := 1) (decl_rc fun m _ => bad_block m)
theorem bad_all (n : Nat) (X : NT) : RC true false n X := by
  cases X with
  | expr => exact bad_expr n
  | bound k => exact bad_bound n k
  | unary => exact bad_unary n
  | asked => exact bad_asked n
  | place s => exact bad_place n s
  | call s => exact bad_call n s
  | block => exact bad_block n
  | stat => exact bad_stat n
  | decl => exact bad_decl n
  | _ =>
    intro W w S l b f a h hb hg he ha hne
    cases he
theorem rc_zero (X : NT) : RC false false 0 X := by
  intro W w S l b f a h hb hg he ha hne
  cases b with
  | true => exact bad_all 0 X f a h (fun _ => rfl) hg he ha hne
  | false => exact absurd rfl hne
theorem rc_all (n : Nat) : ∀ m, m ≤ n → ∀ X, RC false false m X := by
  induction n with
  | zero =>
    intro m hm X
    obtain rfl : m = 0 := by omega
    exact rc_zero X
  | succ n ih =>
    intro m hm X
    by_cases hmn : m ≤ n
    · exact ih m hmn X
    · obtain rfl : m = n + 1 := by omega
      have I : ∀ {b0 g0 : Bool} (m : Nat) (hm : m ≤ n) (X : NT), RC b0 g0 m X := fun m hm X => rc_weak (ih m hm X)
      have J : ∀ {b0 g0 : Bool} (X : NT), RC b0 g0 n X := fun X => I n (Nat.le_refl _) X
      cases X with
      | expr => exact expr_rc (J _)
      | bound k => exact bound_rc (J _) (J _) fun m hm => I m hm _
      | unary => exact unary_rc (J _) (J _) (fun _ => J _) (fun _ => J _)
      | asked => exact asked_rc (J _)
      | place s => exact place_rc (J _)
      | call s => exact call_rc fun m hm => I m hm _
      | block => exact block_rc fun m hm => I m hm _
      | stat => exact stat_rc (J _) (J _) (J _) (fun _ => J _) (fun _ => J _)
      | decl => exact decl_rc fun m hm => I m hm _
      | _ =>
        first
          | (intro W w S l b f a h hb hg he ha hne; cases he)
          | (intro f a h hb hg he ha hne; cases he)
theorem rc_any (n : Nat) (X : NT) : RC false false n X := rc_all n n (Nat.le_refl _) X
end synr
end Go.Proofs.YtpcihajmcejliabGreatDoor
