/- The walk of scanner.blanks. -/
import Derived.Test.YtpcihajmcejliaaGreatDoorLexMath
namespace Go.Proofs.YtpcihajmcejliaaGreatDoor
open Go.RowKit
namespace lex
theorem drop_cons (s : ByteArray) (k : Nat) (h : k < s.size) : s.data.toList.drop k = s[k] :: s.data.toList.drop (k + 1) := by
  rw [List.drop_eq_getElem_cons (by simpa using h)]
  rfl
theorem runN_room (p : Int → Bool) (s : ByteArray) (k : Nat) (h : k ≤ s.size) : k + runN p (s.data.toList.drop k) ≤ s.size := by
  have := runN_le p (s.data.toList.drop k)
  simp only [List.length_drop, Array.length_toList] at this
  have e : s.data.size = s.size := rfl
  omega
theorem run_next_blank (s : ByteArray) (k k1 : Nat) (hk : k + runN blankB (s.data.toList.drop k) = k1) (h : k1 < s.size) : ¬ blankB (s[k1].toNat) = true := by
  subst hk
  have key : ∀ (l : List UInt8) (h : runN blankB l < l.length), ¬ blankB (l[runN blankB l].toNat) = true := by
    intro l
    induction l with
    | nil => intro h; simp [runN] at h
    | cons c r ih =>
      intro h
      by_cases hc : blankB c.toNat = true
      · have e : runN blankB (c :: r) = runN blankB r + 1 := by simp [runN, hc]
        simp only [e, List.getElem_cons_succ]
        exact ih (by simp only [e, List.length_cons] at h; omega)
      · have e : runN blankB (c :: r) = 0 := by simp [runN, hc]
        simpa only [e, List.getElem_cons_zero] using hc
  have h2 := key (s.data.toList.drop k) (by simp only [List.length_drop, Array.length_toList]; have e : s.data.size = s.size := rfl; omega)
  simp only [List.getElem_drop] at h2
  exact h2
set_option maxRecDepth 100000 in
set_option maxHeartbeats 1000000 in
theorem blanks_any (p : Nat) (s : ByteArray) (k0 : Nat) (c f : Int) (w : World) (h : Scn w p s k0 c f) (hk : k0 ≤ s.size) (hs : s.size ≤ 100000) :
    Calls Tryz.prog 154 #[.pointer (some ⟨p, 0, none⟩)] w
      fun e w' => e = .returned (.tuple #[]) ∧ Scn w' p s (k0 + skipB false (s.data.toList.drop k0)) c f ∧ Chg (fun i => i = p) w w' := by
  generalize hR : k0 + skipB false (s.data.toList.drop k0) = R
  have HR := Lib.hid hR
  clear hR
  go_enter Tryz.func154, Tryz.ntmps154
  go_wp2_with fail
  go_loopw [] (fun wr => ∃ k : Nat, k ≤ s.size ∧ Scn wr p s k c f ∧ Chg (fun i => i = p) w wr ∧ Hid (k + skipB false (s.data.toList.drop k) = R)) (fun wr => s.size - at1 wr p)
  case atStart => exact ⟨k0, hk, h, Chg.refl _ _, HR.out⟩
  case round =>
    obtain ⟨k, hk1, hS, hC, hrel⟩ := hrel
    have hm := Scn.at1 hS
    have HM := Lib.hid hm
    clear hm
    go_wp2_with fail
    refine (run_blank p s k c f _ hS hk1 hs).mono ?_
    rintro e w1 ⟨rfl, hS1, hC1⟩
    have hle := runN_room blankB s k hk1
    have hsk := skip_blanks (s.data.toList.drop k)
    rw [List.drop_drop] at hsk
    have hR1 := hrel.out
    rw [hsk, ← Nat.add_assoc] at hR1
    have hge : k ≤ k + runN blankB (s.data.toList.drop k) := by omega
    obtain ⟨k1, hk1e⟩ : ∃ k1, k + runN blankB (s.data.toList.drop k) = k1 := ⟨_, rfl⟩
    have hnb := run_next_blank s k k1 hk1e
    simp only [hk1e] at hS1 hle hR1 hge ⊢
    have HR1 := Lib.hid hR1
    have HN := Lib.hid hnb
    clear hR1 hsk hnb hk1e
    have c0 := hS1.cell 0
    have c1 := hS1.cell 1
    simp only [List.getElem?_toArray, List.getElem?_cons_zero, List.getElem?_cons_succ] at c0 c1
    have hC2 := hC.then hC1
    clear hC hC1 hS
    by_cases hlt : k1 < s.size
    · by_cases hh : (s[k1].toNat : Int) = 35
      · have hd : decide ((s.size : Int) ≤ (k1 : Int)) = false := by simp; omega
        have hb : ((s[k1].toNat : Int) != 35) = false := by rw [hh]; rfl
        have h35 : s[k1] = 35 := (u8_int _ 35).1 hh
        have HH := Lib.hid h35
        clear hh h35
        go_wp2_with fail
        go_quiet (fail)
        go_wp2_with fail
        refine (run_other p s k1 c f _ (hS1.drewN _) hle hs).mono ?_
        rintro e w2 ⟨rfl, hS2, hC3⟩
        go_wp2_with fail
        go_roundw
        case rel =>
          refine ⟨_, runN_room otherB s k1 hle, hS2, (hC2.drewN _).then hC3, ?_⟩
          have := HR1.out
          rw [drop_cons s k1 hlt, HH.out, skip_hash, ← HH.out, ← drop_cons s k1 hlt, skip_remark, List.drop_drop] at this
          unfold Hid
          omega
        case measure =>
          rw [HM.out, Scn.at1 hS2]
          have : runN otherB (s.data.toList.drop k1) = 1 + runN otherB (s.data.toList.drop (k1 + 1)) := runN_step otherB s k1 hlt (by rw [HH.out]; rfl)
          omega
      · have hd : decide ((s.size : Int) ≤ (k1 : Int)) = false := by simp; omega
        have hb : ((s[k1].toNat : Int) != 35) = true := by rw [bne_iff_ne]; exact hh
        have HH := Lib.hid hh
        clear hh
        go_wp2_with fail
        go_quiet (fail)
        go_wp2_with fail
        (try simp only [Exit.inBlock, Exit.then]); refine bodyPost_ret (results_none rfl _ _ _) rfl ?_
        have e : k1 = R := by
          have := HR1.out
          rw [drop_cons s k1 hlt, skip_stop _ _ (fun h => HN.out hlt ((blankB_iff _).2 h)) (fun h => HH.out (by rw [h]; rfl))] at this
          omega
        subst e
        exact ⟨rfl, hS1.drewN _, hC2.drewN _⟩
    · have hd : decide ((s.size : Int) ≤ (k1 : Int)) = true := by simp; omega
      go_wp2_with fail
      go_quiet (fail)
      go_wp2_with fail
      (try simp only [Exit.inBlock, Exit.then]); refine bodyPost_ret (results_none rfl _ _ _) rfl ?_
      have e : k1 = R := by
        have := HR1.out
        rw [List.drop_eq_nil_of_le (by have e : s.data.size = s.size := rfl; simp; omega)] at this
        simpa [skipB] using this
      subst e
      exact ⟨rfl, hS1.drewN _, hC2.drewN _⟩
end lex
end Go.Proofs.YtpcihajmcejliaaGreatDoor
