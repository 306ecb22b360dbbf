/- The reference's signs. -/
import Derived.Test.YtpcihajmcejliabGreatDoorSynR2
namespace Go.Proofs.YtpcihajmcejliabGreatDoor
open Go.RowKit
namespace synr
open synw
def signsL : List (ByteArray × Int × Int) := [(⟨#[61, 61]⟩, 9, 0), (⟨#[60]⟩, 8, 0), (⟨#[43]⟩, 1, 1), (⟨#[45]⟩, 2, 1), (⟨#[124]⟩, 7, 1), (⟨#[42]⟩, 3, 2), (⟨#[47]⟩, 4, 2), (⟨#[37]⟩, 5, 2), (⟨#[38]⟩, 6, 2)]
theorem op_hit : ∀ j (h : j < signsL.length), opOf signsL[j].1 = signsL[j].2 := by
  have h : ∀ j : Fin signsL.length, opOf signsL[j].1 = signsL[j].2 := by decide
  exact fun j hj => h ⟨j, hj⟩
theorem op_miss {s : ByteArray} (h : ∀ j (hj : j < signsL.length), signsL[j].1 ≠ s) : opOf s = (0, -1) := by
  have g0 := h 0 (by decide); have g1 := h 1 (by decide); have g2 := h 2 (by decide); have g3 := h 3 (by decide); have g4 := h 4 (by decide)
  have g5 := h 5 (by decide); have g6 := h 6 (by decide); have g7 := h 7 (by decide); have g8 := h 8 (by decide)
  simp only [signsL, List.getElem_cons_zero, List.getElem_cons_succ] at g0 g1 g2 g3 g4 g5 g6 g7 g8
  simp only [opOf, if_neg (Ne.symm g0), if_neg (Ne.symm g1), if_neg (Ne.symm g2), if_neg (Ne.symm g3), if_neg (Ne.symm g4), if_neg (Ne.symm g5), if_neg (Ne.symm g6), if_neg (Ne.symm g7), if_neg (Ne.symm g8)]
set_option maxRecDepth 100000 in
set_option maxHeartbeats 4000000 in
theorem signs_any (w : World) :
    Calls Tryz.prog 236 #[] w fun e w' => ∃ g1 g2 g3, e = .returned (.tuple #[.slice (some ⟨g1, 0, none⟩) 9 9, .slice (some ⟨g2, 0, none⟩) 9 9, .slice (some ⟨g3, 0, none⟩) 9 9]) ∧
      (∀ (j : Nat) (hj : j < signsL.length), w'.cell? ⟨g1, j, none⟩ = some (.string signsL[j].1) ∧ w'.cell? ⟨g2, j, none⟩ = some (.int .i64 signsL[j].2.1) ∧ w'.cell? ⟨g3, j, none⟩ = some (.int .i64 signsL[j].2.2)) ∧ (g1 < w'.heap.size ∧ g2 < w'.heap.size ∧ g3 < w'.heap.size) ∧ Ext w w' := by
  have hB1 := ((Blk.made w (signsL.map fun x => Value.string x.1).toArray 9).alloc (.cells (signsL.map fun x => Value.int .i64 x.2.1).toArray 2)).alloc (.cells (signsL.map fun x => Value.int .i64 x.2.2).toArray 3)
  have hB2 := (Blk.made2 w (.cells (signsL.map fun x => Value.string x.1).toArray 9) (signsL.map fun x => Value.int .i64 x.2.1).toArray 2).alloc (.cells (signsL.map fun x => Value.int .i64 x.2.2).toArray 3)
  have hB3 := Blk.made ((w.alloc (.cells (signsL.map fun x => Value.string x.1).toArray 9)).alloc (.cells (signsL.map fun x => Value.int .i64 x.2.1).toArray 2)) (signsL.map fun x => Value.int .i64 x.2.2).toArray 3
  have e3 : ((w.alloc (.cells (signsL.map fun x => Value.string x.1).toArray 9)).alloc (.cells (signsL.map fun x => Value.int .i64 x.2.1).toArray 2)).heap.size = w.heap.size + 1 + 1 := by simp
  rw [e3] at hB3
  have hE : Ext w (((w.alloc (.cells (signsL.map fun x => Value.string x.1).toArray 9)).alloc (.cells (signsL.map fun x => Value.int .i64 x.2.1).toArray 2)).alloc (.cells (signsL.map fun x => Value.int .i64 x.2.2).toArray 3)) := (((Chg.refl _ _).alloc _).alloc _).alloc _
  have HF := Lib.hid hE
  have H1 := Lib.hid hB1
  have H2 := Lib.hid hB2
  have H3 := Lib.hid hB3
  clear hE hB1 hB2 hB3 e3
  go_enter Tryz.func236, Tryz.ntmps236
  go_wp2
  go_ret3
  refine ⟨_, _, _, rfl, fun j hj => ⟨?_, ?_, ?_⟩, ⟨H1.out.lt, H2.out.lt, H3.out.lt⟩, HF.out⟩
  · exact (H1.out.cell j).trans (by simp [hj])
  · exact (H2.out.cell j).trans (by simp [hj])
  · exact (H3.out.cell j).trans (by simp [hj])
set_option maxRecDepth 100000 in
set_option maxHeartbeats 4000000 in
theorem sign_any (s : ByteArray) (w : World) : Calls Tryz.prog 329 #[.string s] w fun e w' => e = .returned (.tuple #[.int .i64 (opOf s).1, .int .i64 (opOf s).2]) ∧ Ext w w' := by
  obtain ⟨T, hT⟩ : ∃ T, opOf s = T := ⟨_, rfl⟩
  rw [hT]
  have HH := Lib.hid (fun (j : Nat) (hj : j < signsL.length) (h : signsL[j].1 = s) => (h ▸ op_hit j hj).symm.trans hT)
  have HM := Lib.hid (fun h => (op_miss (s := s) h).symm.trans hT)
  clear hT
  go_enter Tryz.func329, Tryz.ntmps329
  go_wp2_with fail
  refine (signs_any _).mono ?_
  rintro e w1 ⟨g1, g2, g3, rfl, hcell, ⟨hl1, hl2, hl3⟩, hE⟩
  have HC := Lib.hid hcell
  have hlen : signsL.length = 9 := rfl
  clear hcell
  generalize signsL = L at *
  have HL := Lib.hid hlen
  have HE := Lib.hid hE
  clear hlen hE
  go_wp2_with fail
  go_loop [7] (fun i => ∃ j : Nat, j ≤ 9 ∧ i = .int .i64 j ∧ Hid (∀ (q : Nat) (hq : q < L.length), q < j → L[q].1 ≠ s)) (fun i => 9 - (intOf i).toNat)
  case atStart => exact ⟨0, Nat.zero_le _, rfl, fun q hq h => by omega⟩
  case round =>
    obtain ⟨j, hj, rfl, hrel⟩ := hrel
    by_cases hlt : j < 9
    · have hji : (j : Int) < 9 := by omega
      have hjl : j < L.length := by rw [HL.out]; exact hlt
      obtain ⟨hc1, hc2, hc3⟩ := HC.out j hjl
      obtain ⟨x, hx⟩ : ∃ x, L[j] = x := ⟨_, rfl⟩
      rw [hx] at hc1 hc2 hc3
      have HX := Lib.hid hx
      clear hx
      obtain ⟨x1, x2, x3⟩ := x
      simp only at hc1 hc2 hc3
      by_cases he : x1 = s
      · have hT := (HH.out j hjl (by rw [HX.out]; exact he)).symm
        rw [HX.out] at hT
        subst hT
        have h2 : (x1.toList == s.toList) = true := by rw [str_eq]; simpa using he
        clear he
        go_wp2_with fail
        go_quiet (fail)
        go_wp2_with fail
        go_ret2
        exact ⟨rfl, HE.out.drewN _⟩
      · have HNE := Lib.hid he
        have h2 : (x1.toList == s.toList) = false := by rw [str_eq]; simpa using he
        clear he
        go_wp2_with fail
        go_round
        case rel =>
          refine ⟨j + 1, by omega, by go_num, fun q hq h => ?_⟩
          by_cases e : q = j
          · subst e; rw [HX.out]; exact HNE.out
          · exact hrel.out q hq (by omega)
        case measure => simp [intOf]; omega
    · obtain rfl : j = 9 := by omega
      have hT := (HM.out (fun q hq => hrel.out q hq (by have := HL.out; omega))).symm
      subst hT
      clear hrel
      go_wp2_with fail
      go_ret2
      exact ⟨rfl, HE.out⟩
end synr
end Go.Proofs.YtpcihajmcejliabGreatDoor
