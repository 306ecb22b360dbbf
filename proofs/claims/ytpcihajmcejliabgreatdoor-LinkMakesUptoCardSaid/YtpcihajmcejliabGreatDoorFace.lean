/- The walks of chapter 4's small functions: what a label is; a text's place in a list; whether two rows, two procedures are one. -/
import Derived.Test.YtpcihajmcejliabGreatDoorFaceMath
namespace Go.Proofs.YtpcihajmcejliabGreatDoor
open Go.RowKit
namespace face
theorem label_any (n : Int) (w : World) : Calls Tryz.prog 103 #[.int .i64 n] w fun e w' => e = .returned (.bool (labB n)) ∧ w' = w := by
  go_enter Tryz.func103, Tryz.ntmps103
  go_wp2
  all_goals go_ret
  all_goals go_light
  all_goals refine ⟨ret_bool ?_, rfl⟩
  all_goals simp_all [labB]
theorem islabel_any (n : Int) (w : World) : Calls Tryz.prog 193 #[.int .i64 n] w fun e w' => e = .returned (.bool (labB n)) ∧ w' = w := by
  go_enter Tryz.func193, Tryz.ntmps193
  go_wp2
  all_goals go_ret
  all_goals go_light
  all_goals refine ⟨ret_bool ?_, rfl⟩
  all_goals simp_all [labB]
/-- cells that hold words -/
def WordIn (w : World) (b o : Nat) (x : ByteArray) : Prop := w.cell? ⟨b, o, none⟩ = some (.string x)
def PlacePost (B : Bool) (e : Ending) : Prop := ∃ k : Int, e = .returned (.int .i64 k) ∧ decide (0 ≤ k) = B
set_option maxRecDepth 100000 in
/-- A text's place in a list: whether it is there. -/
theorem place_any (a : Option Addr) (c : Nat) (l : List ByteArray) (s : ByteArray) (w : World) (hin : AllIn 1 WordIn w a l) (hl : l.length ≤ 9223372036854775806) :
    Calls Tryz.prog 187 #[.slice a l.length c, .string s] w fun e w' => PlacePost ((l.map fun x => x.data.toList).contains s.data.toList) e ∧ w' = w := by
  generalize hB : (l.map fun x => x.data.toList).contains s.data.toList = B
  have HB := Lib.hid hB
  clear hB
  obtain ⟨n, hn⟩ : ∃ n, l.length = n := ⟨_, rfl⟩
  have HN := Lib.hid hn
  rw [hn] at hl ⊢
  clear hn
  go_enter Tryz.func187, Tryz.ntmps187
  go_wp2_with fail
  go_loop [5] (fun i => ∃ k : Nat, k ≤ n ∧ i = .int .i64 k ∧ Hid (∀ (q : Nat) (hq : q < l.length), q < k → l[q].data.toList ≠ s.data.toList)) (fun i => n - (intOf i).toNat)
  case atStart => exact ⟨0, Nat.zero_le _, rfl, fun q hq h => by omega⟩
  case round =>
    obtain ⟨k, hk, rfl, hrel⟩ := hrel
    by_cases hlt : k < n
    · have hki : (k : Int) < (n : Int) := by omega
      have hjl : k < l.length := by rw [HN.out]; exact hlt
      obtain ⟨b, o, rfl, hb, hc⟩ := hin k hjl
      unfold WordIn at hc
      obtain ⟨x, hx⟩ : ∃ x, l[k] = x := ⟨_, rfl⟩
      rw [hx, Nat.mul_one] at hc
      have HX := Lib.hid hx
      have HIN := Lib.hid hin
      clear hx hin
      by_cases he : x.data.toList = s.data.toList
      · have hF : B = true := by
          rw [← HB.out, List.contains_iff_mem, List.mem_map]
          exact ⟨x, by rw [← HX.out]; exact List.getElem_mem _, he⟩
        have HF := Lib.hid hF
        have h2 : (x.data.toList == s.data.toList) = true := by simpa using he
        have h3 : (x.toList == s.toList) = true := by rw [ByteArray.toList_eq, ByteArray.toList_eq]; simpa using he
        clear he hF
        go_wp2_with fail
        go_ret
        exact ⟨⟨_, rfl, by rw [HF.out]; simp⟩, rfl⟩
      · have HE := Lib.hid he
        have h2 : (x.data.toList == s.data.toList) = false := by simpa using he
        have h3 : (x.toList == s.toList) = false := by rw [ByteArray.toList_eq, ByteArray.toList_eq]; simpa using he
        clear he
        go_wp2_with fail
        go_round
        case rel =>
          refine ⟨k + 1, by omega, by go_num, fun q hq h => ?_⟩
          by_cases e : q = k
          · subst e; rw [HX.out]; exact HE.out
          · exact hrel.out q hq (by omega)
        case measure => simp [intOf]; omega
    · obtain rfl : k = n := by omega
      have hF : B = false := by
        rw [← HB.out, Bool.eq_false_iff]
        intro h
        rw [List.contains_iff_mem, List.mem_map] at h
        obtain ⟨x, hx, e⟩ := h
        obtain ⟨q, hq, rfl⟩ := List.getElem_of_mem hx
        exact hrel.out q hq (by have := HN.out; omega) e
      have HF := Lib.hid hF
      clear hF
      go_wp2_with fail
      go_ret
      exact ⟨⟨_, rfl, by rw [HF.out]; rfl⟩, rfl⟩
end face
end Go.Proofs.YtpcihajmcejliabGreatDoor
