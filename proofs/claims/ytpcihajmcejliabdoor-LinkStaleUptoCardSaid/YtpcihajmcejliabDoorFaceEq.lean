/- The walks of slices.Equal, as the faces' comparisons use it: of rows of numbers, of rows of variables. -/
import Derived.Test.YtpcihajmcejliabDoorFace
namespace Go.Proofs.YtpcihajmcejliabDoor
open Go.RowKit
instance : DecidableEq FVar := fun ⟨a, b, c, d⟩ ⟨a', b', c', d'⟩ => decidable_of_iff (a = a' ∧ b = b' ∧ c = c' ∧ d = d') (by simp)
instance : DecidableEq FProc := fun ⟨a, b, c, d, e, f⟩ ⟨a', b', c', d', e', f'⟩ => decidable_of_iff (a = a' ∧ b = b' ∧ c = c' ∧ d = d' ∧ e = e' ∧ f = f') (by simp)
instance : DecidableEq FFace := fun ⟨a, b, c⟩ ⟨a', b', c'⟩ => decidable_of_iff (a = a' ∧ b = b' ∧ c = c') (by simp)
namespace face
theorem take_snoc {α : Type} [DecidableEq α] (l m : List α) (k : Nat) (hl : k < l.length) (hm : k < m.length) : (decide (l.take (k + 1) = m.take (k + 1))) = (decide (l.take k = m.take k) && decide (l[k] = m[k])) := by
  rw [List.take_succ_eq_append_getElem hl, List.take_succ_eq_append_getElem hm]
  rw [Bool.eq_iff_iff]
  simp only [decide_eq_true_eq, Bool.and_eq_true]
  constructor
  · intro h
    have := List.append_inj' h rfl
    exact ⟨this.1, by simpa using this.2⟩
  · rintro ⟨h1, h2⟩
    rw [h1, h2]
theorem take_ne {α : Type} [DecidableEq α] {l m : List α} {k : Nat} (hl : k < l.length) (hm : k < m.length) (h : l[k] ≠ m[k]) : decide (l = m) = false := by
  rw [decide_eq_false_iff_not]
  rintro rfl
  exact h rfl
theorem take_all {α : Type} [DecidableEq α] {l m : List α} {k : Nat} (hl : l.length = k) (hm : m.length = k) (h : decide (l.take k = m.take k) = true) : decide (l = m) = true := by
  rw [List.take_of_length_le (by omega), List.take_of_length_le (by omega)] at h
  exact h
theorem len_ne {α : Type} [DecidableEq α] {l m : List α} (h : l.length ≠ m.length) : decide (l = m) = false := by
  rw [decide_eq_false_iff_not]
  rintro rfl
  exact h rfl
set_option maxRecDepth 100000 in
theorem ints_any (a b : Option Addr) (c d : Nat) (l m : List Int) (w : World) (hl : AllIn 1 IntIn w a l) (hm : AllIn 1 IntIn w b m) (hc : l.length ≤ c) (hc2 : c ≤ maxLen) (hd : m.length ≤ d) :
    Calls Tryd.prog 24 #[.slice a l.length c, .slice b m.length d] w fun e w' => e = .returned (.bool (decide (l = m))) ∧ ∃ n, w' = w.drewN n := by
  unfold maxLen at hc2
  by_cases hlen : l.length = m.length
  · generalize hB : decide (l = m) = B
    have HB := Lib.hid hB
    clear hB
    obtain ⟨n, hn⟩ : ∃ n, l.length = n := ⟨_, rfl⟩
    have HN := Lib.hid hn
    have HM := Lib.hid (hlen.symm.trans hn)
    rw [← hlen, hn]
    rw [hn] at hc
    rw [← hlen, hn] at hd
    have HI := Lib.hid (And.intro hl hm)
    clear hn hlen hl hm
    go_enter Tryd.func24, Tryd.ntmps24
    go_wp2_with fail
    go_loopw [13] (fun i wr => ∃ k : Nat, k ≤ n ∧ i = .int .i64 k ∧ Hid (decide (l.take k = m.take k) = true) ∧ ∃ q, wr = w.drewN q) (fun i _ => n - (intOf i).toNat)
    case atStart => exact ⟨0, Nat.zero_le _, rfl, by simp [Hid], 0, rfl⟩
    case round =>
      obtain ⟨k, hk, rfl, hrel, q, rfl⟩ := hrel
      by_cases hlt : k < n
      · have hki : (k : Int) < (n : Int) := by omega
        have hlk : k < l.length := by rw [HN.out]; exact hlt
        have hmk : k < m.length := by rw [HM.out]; exact hlt
        obtain ⟨bl, ol, rfl, hbl, cl⟩ := HI.out.1 k hlk
        obtain ⟨bm, om, rfl, hbm, cm⟩ := HI.out.2 k hmk
        unfold IntIn at cl cm
        rw [Nat.mul_one] at cl cm
        have hs := take_snoc l m k hlk hmk
        rw [hrel.out, Bool.true_and] at hs
        have HNE := Lib.hid (fun h => take_ne hlk hmk h)
        generalize l[k] = x at *
        generalize m[k] = y at *
        by_cases he : x = y
        · have hxy : (x == y) = true := by simpa using he
          have HS := Lib.hid (hs.trans (decide_eq_true he))
          clear hs he
          go_wp2_with fail
          go_quiet (fail)
          go_wp2_with fail
          go_roundw
          case rel => exact ⟨k + 1, by omega, by go_num, HS.out, _, rfl⟩
          case measure => simp [intOf]; omega
        · have hxy : (x == y) = false := by simpa using he
          have HF := Lib.hid (HB.out.symm.trans (HNE.out he))
          clear hs he HNE
          go_wp2_with fail
          go_quiet (fail)
          go_wp2_with fail
          go_ret
          first | exact ⟨ret_bool HF.out.symm, _, rfl⟩ | exact ⟨ret_bool HF.out.symm, _, World.drewN_drewN _ _ _⟩
      · obtain rfl : k = n := by omega
        have HF := Lib.hid (HB.out.symm.trans (take_all HN.out HM.out hrel.out))
        go_wp2_with fail
        go_ret
        first | exact ⟨ret_bool HF.out.symm, _, rfl⟩ | exact ⟨ret_bool HF.out.symm, _, World.drewN_drewN _ _ _⟩
  · rw [len_ne hlen]
    have hne : ((l.length : Int) == (m.length : Int)) = false := by rw [beq_eq_false_iff_ne]; omega
    obtain ⟨n, hn⟩ : ∃ n, l.length = n := ⟨_, rfl⟩
    obtain ⟨n', hn'⟩ : ∃ n, m.length = n := ⟨_, rfl⟩
    rw [hn, hn'] at hne hlen ⊢
    clear hn hn' hl hm
    go_enter Tryd.func24, Tryd.ntmps24
    go_wp2_with fail
    go_ret
    exact ⟨rfl, 0, rfl⟩
set_option maxRecDepth 100000 in
set_option maxHeartbeats 1000000 in
theorem vars_any (a b : Option Addr) (c d : Nat) (l m : List FVar) (w : World) (hl : AllIn 4 VarIn w a l) (hm : AllIn 4 VarIn w b m) (hc : l.length ≤ c) (hc2 : c ≤ maxLen) (hd : m.length ≤ d) :
    Calls Tryd.prog 21 #[.slice a l.length c, .slice b m.length d] w fun e w' => e = .returned (.bool (decide (l = m))) ∧ ∃ n, w' = w.drewN n := by
  unfold maxLen at hc2
  by_cases hlen : l.length = m.length
  · generalize hB : decide (l = m) = B
    have HB := Lib.hid hB
    clear hB
    obtain ⟨n, hn⟩ : ∃ n, l.length = n := ⟨_, rfl⟩
    have HN := Lib.hid hn
    have HM := Lib.hid (hlen.symm.trans hn)
    rw [← hlen, hn]
    rw [hn] at hc
    rw [← hlen, hn] at hd
    have HI := Lib.hid (And.intro hl hm)
    clear hn hlen hl hm
    go_enter Tryd.func21, Tryd.ntmps21
    go_wp2_with fail
    go_loopw [13] (fun i wr => ∃ k : Nat, k ≤ n ∧ i = .int .i64 k ∧ Hid (decide (l.take k = m.take k) = true) ∧ ∃ q, wr = w.drewN q) (fun i _ => n - (intOf i).toNat)
    case atStart => exact ⟨0, Nat.zero_le _, rfl, by simp [Hid], 0, rfl⟩
    case round =>
      obtain ⟨k, hk, rfl, hrel, q, rfl⟩ := hrel
      by_cases hlt : k < n
      · have hki : (k : Int) < (n : Int) := by omega
        have hlk : k < l.length := by rw [HN.out]; exact hlt
        have hmk : k < m.length := by rw [HM.out]; exact hlt
        obtain ⟨bl, ol, rfl, hbl, cl⟩ := HI.out.1 k hlk
        obtain ⟨bm, om, rfl, hbm, cm⟩ := HI.out.2 k hmk
        obtain ⟨l0, l1, l2, l3, _⟩ := cl
        obtain ⟨m0, m1, m2, m3, _⟩ := cm
        have hs := take_snoc l m k hlk hmk
        rw [hrel.out, Bool.true_and] at hs
        have HNE := Lib.hid (fun h => take_ne hlk hmk h)
        generalize l[k] = x at *
        generalize m[k] = y at *
        obtain ⟨xn, xp, xl, xs⟩ := x
        obtain ⟨yn, yp, yl, ys⟩ := y
        simp only at l0 l1 l2 l3 m0 m1 m2 m3
        have hq : FVar.mk xn xp xl xs = FVar.mk yn yp yl ys ↔ xn = yn ∧ xp = yp ∧ xl = yl ∧ xs = ys := by simp
        have HQ := Lib.hid hq
        have HS := Lib.hid hs
        clear hs hq
        by_cases e0 : xn = yn
        · subst e0
          by_cases e1 : xp = yp
          · subst e1
            by_cases e2 : xl = yl
            · subst e2
              by_cases e3 : xs = ys
              · subst e3
                have HT := Lib.hid (HS.out.trans (decide_eq_true rfl))
                clear HS HQ HNE
                go_wp2_with fail
                go_quiet (fail)
                go_wp2_with fail
                go_roundw
                case rel => exact ⟨k + 1, by omega, by go_num, HT.out, _, rfl⟩
                case measure => simp [intOf]; omega
              · have HF := Lib.hid (HB.out.symm.trans (HNE.out (fun h => e3 (HQ.out.1 h).2.2.2)))
                have h0 : (xs == ys) = false := by simpa using e3
                clear HS HQ HNE e3
                go_wp2_with fail
                go_quiet (fail)
                go_wp2_with fail
                go_ret
                first | exact ⟨ret_bool HF.out.symm, _, rfl⟩ | exact ⟨ret_bool HF.out.symm, _, World.drewN_drewN _ _ _⟩
            · have HF := Lib.hid (HB.out.symm.trans (HNE.out (fun h => e2 (HQ.out.1 h).2.2.1)))
              have h0 : (xl == yl) = false := by simpa using e2
              clear HS HQ HNE e2
              go_wp2_with fail
              go_quiet (fail)
              go_wp2_with fail
              go_ret
              first | exact ⟨ret_bool HF.out.symm, _, rfl⟩ | exact ⟨ret_bool HF.out.symm, _, World.drewN_drewN _ _ _⟩
          · have HF := Lib.hid (HB.out.symm.trans (HNE.out (fun h => e1 (HQ.out.1 h).2.1)))
            have h0 : (xp == yp) = false := by simpa using e1
            clear HS HQ HNE e1
            go_wp2_with fail
            go_quiet (fail)
            go_wp2_with fail
            go_ret
            first | exact ⟨ret_bool HF.out.symm, _, rfl⟩ | exact ⟨ret_bool HF.out.symm, _, World.drewN_drewN _ _ _⟩
        · have HF := Lib.hid (HB.out.symm.trans (HNE.out (fun h => e0 (HQ.out.1 h).1)))
          have h0 : (xn.toList == yn.toList) = false := by rw [ByteArray.toList_eq, ByteArray.toList_eq]; simpa [ByteArray.ext_iff] using e0
          have h1 : (xn.data.toList == yn.data.toList) = false := by simpa [ByteArray.ext_iff] using e0
          clear HS HQ HNE e0
          go_wp2_with fail
          go_quiet (fail)
          go_wp2_with fail
          go_ret
          first | exact ⟨ret_bool HF.out.symm, _, rfl⟩ | exact ⟨ret_bool HF.out.symm, _, World.drewN_drewN _ _ _⟩
      · obtain rfl : k = n := by omega
        have HF := Lib.hid (HB.out.symm.trans (take_all HN.out HM.out hrel.out))
        go_wp2_with fail
        go_ret
        first | exact ⟨ret_bool HF.out.symm, _, rfl⟩ | exact ⟨ret_bool HF.out.symm, _, World.drewN_drewN _ _ _⟩
  · rw [len_ne hlen]
    have hne : ((l.length : Int) == (m.length : Int)) = false := by rw [beq_eq_false_iff_ne]; omega
    obtain ⟨n, hn⟩ : ∃ n, l.length = n := ⟨_, rfl⟩
    obtain ⟨n', hn'⟩ : ∃ n, m.length = n := ⟨_, rfl⟩
    rw [hn, hn'] at hne hlen ⊢
    clear hn hn' hl hm
    go_enter Tryd.func21, Tryd.ntmps21
    go_wp2_with fail
    go_ret
    exact ⟨rfl, 0, rfl⟩
end face
end Go.Proofs.YtpcihajmcejliabDoor
