/- The walk of the reference's sign. -/
import Derived.Test.YtpcihajmcejliaaDoorLexRef
namespace Go.Proofs.YtpcihajmcejliaaDoor
open Go.RowKit
def signL : List (List UInt8) := [[61, 61], [123], [125], [40], [41], [91], [93], [59], [44], [46], [61], [60], [43], [45], [42], [47], [37], [38], [124], [33]]
namespace rlex
theorem sign_none (l : List UInt8) (h : ∀ x ∈ signL, Lib.hasPrefix l x = false) : signN l = 0 := by
  have h1 : Lib.hasPrefix l [61, 61] = false := h [61, 61] (by decide)
  unfold signN
  rw [if_neg (by rw [h1]; simp)]
  cases l with
  | nil => rfl
  | cons c r =>
    show (if signsL.contains c then 1 else 0) = 0
    rw [if_neg]
    intro hc
    have key : ∀ c ∈ signsL, [c] ∈ signL := by decide
    have := h _ (key c (by simpa using hc))
    simp [Lib.hasPrefix] at this
theorem sign_one (l : List UInt8) (k : Nat) (hk : k < signL.length) (h : ∀ j (hj : j < signL.length), j < k → Lib.hasPrefix l signL[j] = false) (hm : Lib.hasPrefix l signL[k] = true) : signN l = signL[k].length := by
  unfold signN
  by_cases h0 : k = 0
  · subst h0
    have hm : Lib.hasPrefix l [61, 61] = true := hm
    rw [if_pos hm]
    rfl
  · have h1 : Lib.hasPrefix l [61, 61] = false := h 0 (by decide) (by omega)
    rw [if_neg (by rw [h1]; simp)]
    have key : ∀ x ∈ signL.tail, x.length = 1 ∧ ∀ c ∈ x, c ∈ signsL := by decide
    have hmem : signL[k] ∈ signL.tail := by
      rw [List.mem_iff_getElem]
      refine ⟨k - 1, by simp; omega, ?_⟩
      rw [List.getElem_tail]
      congr 1
      omega
    obtain ⟨h2, h3⟩ := key _ hmem
    rw [h2]
    obtain ⟨c, he⟩ := List.length_eq_one_iff.1 h2
    rw [he] at hm h3
    cases l with
    | nil => simp [Lib.hasPrefix] at hm
    | cons d r =>
      have : c = d := by simpa [Lib.hasPrefix] using hm
      subst this
      show (if signsL.contains c then 1 else 0) = 1
      rw [if_pos (by simpa using h3 c (by simp))]
theorem prefix_extract (s : ByteArray) (x : List UInt8) (k : Nat) (hx : x ≠ []) : Lib.hasPrefix (s.data.toList.drop k) x = (decide (k + x.length ≤ s.size) && ((s.extract k (k + x.length)).data.toList == x)) := by
  rw [lex.extract_list, Bool.eq_iff_iff]
  simp only [Lib.hasPrefix, List.isPrefixOf_iff_prefix, Bool.and_eq_true, decide_eq_true_eq, beq_iff_eq]
  have e2 : s.data.toList.length = s.size := by rw [Array.length_toList]; rfl
  have e3 : 0 < x.length := List.length_pos_iff.2 hx
  constructor
  · intro h
    have := h.length_le
    rw [List.length_drop] at this
    exact ⟨by omega, (List.prefix_iff_eq_take.1 h).symm⟩
  · rintro ⟨h, h2⟩
    rw [← h2]
    exact List.take_prefix _ _
set_option maxRecDepth 100000 in
set_option maxHeartbeats 1000000 in
theorem sign_any (s : ByteArray) (k : Nat) (w : World) (hs : s.size ≤ 100000) (hk : k ≤ s.size) (T : Nat) (hT : Hid (signN (s.data.toList.drop k) = T)) :
    Calls Tryd.prog 18 #[.string s, .int .i64 k] w fun e w' => ∃ t : ByteArray, e = .returned (.string t) ∧ t.size = T ∧ Ext w w' := by
  go_enter Tryd.func18, Tryd.ntmps18
  go_wp2_with fail
  have hB : Blk (w.alloc (.cells (signL.map fun l => Value.string ⟨l.toArray⟩).toArray 9)) w.heap.size (signL.map fun l => Value.string ⟨l.toArray⟩).toArray 9 := Blk.made _ _ _
  have hE : Ext w (w.alloc (.cells (signL.map fun l => Value.string ⟨l.toArray⟩).toArray 9)) := (Chg.refl _ w).alloc _
  have hF : w.alloc (.cells (signL.map fun l => Value.string ⟨l.toArray⟩).toArray 9) = w.alloc (.cells #[.string ⟨#[61, 61]⟩, .string ⟨#[123]⟩, .string ⟨#[125]⟩, .string ⟨#[40]⟩, .string ⟨#[41]⟩, .string ⟨#[91]⟩, .string ⟨#[93]⟩, .string ⟨#[59]⟩, .string ⟨#[44]⟩, .string ⟨#[46]⟩, .string ⟨#[61]⟩, .string ⟨#[60]⟩, .string ⟨#[43]⟩, .string ⟨#[45]⟩, .string ⟨#[42]⟩, .string ⟨#[47]⟩, .string ⟨#[37]⟩, .string ⟨#[38]⟩, .string ⟨#[124]⟩, .string ⟨#[33]⟩] 9) := rfl
  rw [← hF]
  clear hF
  generalize w.alloc (.cells (signL.map fun l => Value.string ⟨l.toArray⟩).toArray 9) = w1 at *
  have hcell : ∀ j (hj : j < signL.length), w1.cell? ⟨w.heap.size, j, none⟩ = some (.string ⟨signL[j].toArray⟩) := by
    intro j hj
    rw [hB.cell]
    simp [hj]
  clear hB
  have hlen : signL.length = 20 := rfl
  have HC := Lib.hid hcell
  have hne : ∀ x ∈ signL, x ≠ [] ∧ x.length ≤ 2 := by decide
  have HNE := Lib.hid hne
  have HSO := Lib.hid (sign_one (s.data.toList.drop k))
  have HNO := Lib.hid (sign_none (s.data.toList.drop k))
  clear hcell hne
  generalize signL = L at *
  have HL := Lib.hid hlen
  clear hlen
  generalize w.heap.size = b at *
  go_loopw [6] (fun i wr => ∃ j : Nat, j ≤ 20 ∧ i = .int .i64 j ∧ (∃ n, wr = w1.drewN n) ∧ Hid (∀ i (hi : i < L.length), i < j → Lib.hasPrefix (s.data.toList.drop k) L[i] = false)) (fun i _ => 20 - (intOf i).toNat)
  case atStart => exact ⟨0, by omega, rfl, ⟨0, rfl⟩, fun i hi h => by omega⟩
  case round =>
    obtain ⟨j, hj, rfl, ⟨m, rfl⟩, hrel⟩ := hrel
    by_cases hlt : j < 20
    · have hji : (j : Int) < 20 := by omega
      have hjl : j < L.length := by rw [HL.out]; exact hlt
      have hc := HC.out j hjl
      have hn := HNE.out _ (List.getElem_mem hjl)
      have hpe := prefix_extract s L[j] k hn.1
      have hso := HSO.out j hjl hrel.out
      obtain ⟨x, hx⟩ : ∃ x, L[j] = x := ⟨_, rfl⟩
      rw [hx] at hc hn hpe hso
      have HX := Lib.hid hx
      have hsx : (⟨x.toArray⟩ : ByteArray).size = x.length := by show x.toArray.size = _; simp
      clear hx
      by_cases hfit : k + x.length ≤ s.size
      · obtain ⟨E, hE⟩ : ∃ E, ((s.extract k (k + x.length)).data.toList == x) = E := ⟨_, rfl⟩
        rw [hE] at hpe
        have hpe2 : Lib.hasPrefix (s.data.toList.drop k) x = E := by rw [hpe]; simp [hfit]
        have HP := Lib.hid hpe2
        have HSO2 := Lib.hid hso
        clear hpe hpe2 hso
        have hEE : ((s.extract k (k + x.length)).toList == x) = E := by rw [ByteArray.toList_eq]; exact hE
        clear hE
        obtain ⟨q, hq⟩ : ∃ q, k + x.length = q := ⟨_, rfl⟩
        rw [hq] at hEE hfit
        have hw : IntKind.i64.wrap ((k : Int) + (x.length : Int)) = (q : Int) := (IntWalk.i64_in _ (by omega)).trans (by omega)
        have hq1 : (k : Int) ≤ (q : Int) := by omega
        have hq2 : (q : Int) ≤ (s.size : Int) := by omega
        clear hq
        cases E
        · go_wp2_with fail
          go_quiet (fail)
          clear hw
          go_wp2_with fail
          go_roundw
          case rel =>
            refine ⟨j + 1, by omega, by go_num, ⟨_, rfl⟩, fun i hi h => ?_⟩
            by_cases e : i = j
            · subst e; rw [HX.out]; exact HP.out
            · exact hrel.out i hi (by omega)
          case measure => simp [intOf]; omega
        · go_wp2_with fail
          go_quiet (fail)
          clear hw
          go_wp2_with fail
          go_ret
          exact ⟨_, rfl, by rw [← hT.out, HSO2.out HP.out, hsx], hE.drewN _⟩
      · have hpf : Lib.hasPrefix (s.data.toList.drop k) x = false := by rw [hpe]; simp [hfit]
        have HP := Lib.hid hpf
        obtain ⟨q, hq⟩ : ∃ q, k + x.length = q := ⟨_, rfl⟩
        have hw : IntKind.i64.wrap ((k : Int) + (x.length : Int)) = (q : Int) := (IntWalk.i64_in _ (by omega)).trans (by omega)
        have hq2 : decide (q ≤ s.size) = false := by simp; omega
        clear hpe hso hpf hq hfit
        go_wp2_with fail
        go_quiet (fail)
        clear hw
        go_wp2_with fail
        go_roundw
        case rel =>
          refine ⟨j + 1, by omega, by go_num, ⟨_, rfl⟩, fun i hi h => ?_⟩
          by_cases e : i = j
          · subst e; rw [HX.out]; exact HP.out
          · exact hrel.out i hi (by omega)
        case measure => simp [intOf]; omega
    · obtain rfl : j = 20 := by omega
      have h0 : T = 0 := by
        rw [← hT.out]
        refine HNO.out fun x hx => ?_
        obtain ⟨i, hi, rfl⟩ := List.getElem_of_mem hx
        exact hrel.out i hi (by have := HL.out; omega)
      subst h0
      go_wp2_with fail
      go_ret
      exact ⟨_, rfl, rfl, hE.drewN _⟩
end rlex
end Go.Proofs.YtpcihajmcejliaaDoor
