/- A run of a machine keeps how many words each memory has. -/
import Derived.Test.YtpcihajmcejliaaMachRun
namespace Go.Proofs.Ytpcihajmcejliaa
open Go.RowKit
namespace mst
theorem step_len {i0 i1 : List Int} {σ τ : Mst} {i : Ins} (hs : stepF i0 i1 σ i = .ok τ) : τ.lo.length = σ.lo.length ∧ τ.hi.length = σ.hi.length := by
  unfold stepF goOn at hs
  by_cases e1 : i.op = 1
  · rw [if_pos e1] at hs
    obtain rfl := Except.ok.inj hs; first | exact ⟨rfl, rfl⟩ | exact ⟨List.length_set .., rfl⟩ | exact ⟨rfl, List.length_set ..⟩
  rw [if_neg e1] at hs
  by_cases e2 : i.op = 2
  · rw [if_pos e2] at hs
    obtain rfl := Except.ok.inj hs; first | exact ⟨rfl, rfl⟩ | exact ⟨List.length_set .., rfl⟩ | exact ⟨rfl, List.length_set ..⟩
  rw [if_neg e2] at hs
  by_cases e3 : i.op = 3
  · rw [if_pos e3] at hs
    obtain rfl := Except.ok.inj hs; first | exact ⟨rfl, rfl⟩ | exact ⟨List.length_set .., rfl⟩ | exact ⟨rfl, List.length_set ..⟩
  rw [if_neg e3] at hs
  by_cases e4 : i.op = 4
  · rw [if_pos e4] at hs
    split at hs
    · obtain rfl := Except.ok.inj hs; first | exact ⟨rfl, rfl⟩ | exact ⟨List.length_set .., rfl⟩ | exact ⟨rfl, List.length_set ..⟩
    · cases hs
  rw [if_neg e4] at hs
  by_cases e5 : i.op = 5
  · rw [if_pos e5] at hs
    split at hs
    · obtain rfl := Except.ok.inj hs; first | exact ⟨rfl, rfl⟩ | exact ⟨List.length_set .., rfl⟩ | exact ⟨rfl, List.length_set ..⟩
    · cases hs
  rw [if_neg e5] at hs
  by_cases e6 : i.op = 6
  · rw [if_pos e6] at hs
    split at hs
    · obtain rfl := Except.ok.inj hs; first | exact ⟨rfl, rfl⟩ | exact ⟨List.length_set .., rfl⟩ | exact ⟨rfl, List.length_set ..⟩
    · cases hs
  rw [if_neg e6] at hs
  by_cases e7 : i.op = 7
  · rw [if_pos e7] at hs
    split at hs
    · obtain rfl := Except.ok.inj hs; first | exact ⟨rfl, rfl⟩ | exact ⟨List.length_set .., rfl⟩ | exact ⟨rfl, List.length_set ..⟩
    · cases hs
  rw [if_neg e7] at hs
  by_cases e8 : i.op = 8
  · rw [if_pos e8] at hs
    obtain rfl := Except.ok.inj hs; first | exact ⟨rfl, rfl⟩ | exact ⟨List.length_set .., rfl⟩ | exact ⟨rfl, List.length_set ..⟩
  rw [if_neg e8] at hs
  by_cases e9 : i.op = 9
  · rw [if_pos e9] at hs
    obtain rfl := Except.ok.inj hs; first | exact ⟨rfl, rfl⟩ | exact ⟨List.length_set .., rfl⟩ | exact ⟨rfl, List.length_set ..⟩
  rw [if_neg e9] at hs
  by_cases e10 : i.op = 10
  · rw [if_pos e10] at hs
    split at hs
    · obtain rfl := Except.ok.inj hs; first | exact ⟨rfl, rfl⟩ | exact ⟨List.length_set .., rfl⟩ | exact ⟨rfl, List.length_set ..⟩
    · cases hs
  rw [if_neg e10] at hs
  by_cases e11 : i.op = 11
  · rw [if_pos e11] at hs
    split at hs
    · obtain rfl := Except.ok.inj hs; first | exact ⟨rfl, rfl⟩ | exact ⟨List.length_set .., rfl⟩ | exact ⟨rfl, List.length_set ..⟩
    · cases hs
  rw [if_neg e11] at hs
  by_cases e12 : i.op = 12
  · rw [if_pos e12] at hs
    split at hs
    · cases hs
    · obtain rfl := Except.ok.inj hs; first | exact ⟨rfl, rfl⟩ | exact ⟨List.length_set .., rfl⟩ | exact ⟨rfl, List.length_set ..⟩
  rw [if_neg e12] at hs
  by_cases e13 : i.op = 13
  · rw [if_pos e13] at hs
    obtain rfl := Except.ok.inj hs; exact ⟨rfl, rfl⟩
  rw [if_neg e13] at hs
  by_cases e14 : i.op = 14
  · rw [if_pos e14] at hs
    obtain rfl := Except.ok.inj hs; exact ⟨rfl, rfl⟩
  rw [if_neg e14] at hs
  by_cases e15 : i.op = 15
  · rw [if_pos e15] at hs
    split at hs
    · obtain rfl := Except.ok.inj hs; first | exact ⟨rfl, rfl⟩ | exact ⟨List.length_set .., rfl⟩ | exact ⟨rfl, List.length_set ..⟩
    · cases hs
  rw [if_neg e15] at hs
  by_cases e16 : i.op = 16
  · rw [if_pos e16] at hs
    split at hs
    · obtain rfl := Except.ok.inj hs; first | exact ⟨rfl, rfl⟩ | exact ⟨List.length_set .., rfl⟩ | exact ⟨rfl, List.length_set ..⟩
    · cases hs
  rw [if_neg e16] at hs
  by_cases e17 : i.op = 17
  · rw [if_pos e17] at hs; cases hs
  rw [if_neg e17] at hs
  split at hs
  · obtain rfl := Except.ok.inj hs; first | exact ⟨rfl, rfl⟩ | exact ⟨List.length_set .., rfl⟩ | exact ⟨rfl, List.length_set ..⟩
  · cases hs
theorem run_len (code : List Ins) (i0 i1 : List Int) : ∀ (n : Nat) (σ : Mst), (runF code i0 i1 n σ).2.2.lo.length = σ.lo.length ∧ (runF code i0 i1 n σ).2.2.hi.length = σ.hi.length := by
  intro n
  induction n with
  | zero => intro σ; exact ⟨rfl, rfl⟩
  | succ n ih =>
    intro σ
    rw [runF]
    by_cases hc : σ.pc.toNat < code.length
    · rw [dif_pos hc]
      cases hs : stepF i0 i1 σ code[σ.pc.toNat] with
      | error x => exact ⟨rfl, rfl⟩
      | ok τ =>
        have h1 := ih τ
        have h2 := step_len hs
        exact ⟨h1.1.trans h2.1, h1.2.trans h2.2⟩
    · rw [dif_neg hc]
      exact ⟨rfl, rfl⟩
end mst
end Go.Proofs.Ytpcihajmcejliaa
