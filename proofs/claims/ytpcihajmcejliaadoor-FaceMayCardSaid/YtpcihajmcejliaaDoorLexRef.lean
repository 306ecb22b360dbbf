/- The walks of the reference's package 2: bytes, numerals, signs. -/
import Derived.Test.YtpcihajmcejliaaDoorLexScan
import Derived.WalkLawsBesides
namespace Go.Proofs.YtpcihajmcejliaaDoor
open Go.RowKit
namespace rlex
set_option maxHeartbeats 400000 in
theorem letter_any (n : Int) (w : World) :
    Calls Tryd.prog 15 #[.int .u8 n] w fun e w' => e = .returned (.bool (letterB n)) ∧ w = w' := by
  generalize hR : letterB n = R
  have HR := Lib.hid hR
  clear hR
  go_enter Tryd.func15, Tryd.ntmps15
  go_wp2
  all_goals go_ret
  all_goals exact ⟨ret_bool (by rw [← HR.out, letterB, Bool.eq_iff_iff]; simp; omega), rfl⟩
set_option maxHeartbeats 400000 in
theorem digit_any (n : Int) (w : World) :
    Calls Tryd.prog 16 #[.int .u8 n] w fun e w' => e = .returned (.bool (digitB n)) ∧ w = w' := by
  generalize hR : digitB n = R
  have HR := Lib.hid hR
  clear hR
  go_enter Tryd.func16, Tryd.ntmps16
  go_wp2
  all_goals go_ret
  all_goals exact ⟨ret_bool (by rw [← HR.out, digitB, Bool.eq_iff_iff]; simp; omega), rfl⟩
set_option maxHeartbeats 400000 in
theorem inside_any (n : Int) (w : World) :
    Calls Tryd.prog 14 #[.int .u8 n] w fun e w' => e = .returned (.bool (partB n)) ∧ w = w' := by
  generalize hR : partB n = R
  have HR := Lib.hid hR
  clear hR
  obtain ⟨L, hL⟩ : ∃ L, letterB n = L := ⟨_, rfl⟩
  obtain ⟨D, hD⟩ : ∃ D, digitB n = D := ⟨_, rfl⟩
  have c1 := letter_any n
  have c2 := digit_any n
  rw [hL] at c1
  rw [hD] at c2
  have C1 := Lib.hid c1
  have C2 := Lib.hid c2
  have HL := Lib.hid hL
  have HD := Lib.hid hD
  clear c1 c2 hL hD
  cases L <;> cases D
  all_goals
    go_enter Tryd.func14, Tryd.ntmps14
    go_wp2_with (first | (refine (C1.out _).mono ?_; rintro e w' ⟨rfl, rfl⟩) | (refine (C2.out _).mono ?_; rintro e w' ⟨rfl, rfl⟩))
    all_goals go_ret
    all_goals exact ⟨ret_bool (by rw [← HR.out, partB, HL.out, HD.out, Bool.eq_iff_iff]; simp), rfl⟩
theorem digs_take (s : ByteArray) (k : Nat) (h : k < s.size) : digs (s.data.toList.take (k + 1)) = (digs (s.data.toList.take k) && digitB s[k].toNat) := by
  have e : s.data.toList[k]'(by simpa using h) = s[k] := rfl
  rw [List.take_succ_eq_append_getElem (by simpa using h), e]
  simp [digs]
theorem less_total (l : List UInt8) : ∀ m, l.length = m.length → Op.bytesLess l m = false → Op.bytesLess m l = false → l = m := by
  induction l with
  | nil => intro m h _ _; cases m with | nil => rfl | cons _ _ => simp at h
  | cons c r ih =>
    intro m h h1 h2
    cases m with
    | nil => simp at h
    | cons d q =>
      simp only [Op.bytesLess, Bool.or_eq_false_iff, Bool.and_eq_false_iff, decide_eq_false_iff_not, beq_eq_false_iff_ne, UInt8.lt_iff_toNat_lt] at h1 h2
      have e : c = d := UInt8.toNat_inj.1 (by omega)
      subst e
      rw [ih q (by simpa using h) (h1.2.resolve_left (fun h => h rfl)) (h2.2.resolve_left (fun h => h rfl))]
def mostL : List UInt8 := [57, 50, 50, 51, 51, 55, 50, 48, 51, 54, 56, 53, 52, 55, 55, 53, 56, 48, 55]
theorem most_dec : decFrom 0 mostL = 9223372036854775807 := by
  simp only [decFrom, mostL, List.foldl_cons, List.foldl_nil, dstep_eq]
  rfl
set_option maxRecDepth 100000 in
set_option maxHeartbeats 1000000 in
theorem numeral_any (s : ByteArray) (w : World) (hs : s.size ≤ 100000) (h0 : 0 < s.size) (T : Int) (hT : Hid (numeralF s.data.toList = T)) :
    Calls Tryd.prog 17 #[.string s] w fun e w' => e = .returned (.int .i64 T) ∧ w = w' := by
  have hsz : s.data.toList.length = s.size := by rw [Array.length_toList]; rfl
  go_enter Tryd.func17, Tryd.ntmps17
  go_wp2_with fail
  go_loop [3] (fun i => ∃ k : Nat, k ≤ s.size ∧ i = .int .i64 k ∧ Hid (digs (s.data.toList.take k) = true)) (fun i => s.size - (intOf i).toNat)
  case atStart => exact ⟨0, Nat.zero_le _, rfl, rfl⟩
  case round =>
    obtain ⟨k, hk, rfl, hrel⟩ := hrel
    by_cases hlt : k < s.size
    · have hd : decide ((k : Int) < (s.size : Int)) = true := by simp; omega
      have ht := digs_take s k hlt
      rw [hrel.out, Bool.true_and] at ht
      cases hb : digitB s[k].toNat
      · have cc := digit_any s[k].toNat
        rw [hb] at cc ht
        have CC := Lib.hid cc
        have hf : T = 2 := by
          rw [← hT.out, numeralF, if_pos]
          cases hq : digs s.data.toList
          · rfl
          · have : digs (s.data.toList.take (k + 1)) = true := by
              simp only [digs, List.all_eq_true] at hq ⊢
              exact fun x hx => hq x (List.mem_of_mem_take hx)
            rw [ht] at this; cases this
        have HF := Lib.hid hf
        clear cc hb ht hf
        go_wp2_with (go_at_call 16; refine (CC.out _).mono ?_; rintro e w' ⟨rfl, rfl⟩)
        go_ret
        exact ⟨ret_int HF.out.symm, rfl⟩
      · have cc := digit_any s[k].toNat
        rw [hb] at cc ht
        have CC := Lib.hid cc
        have HT := Lib.hid ht
        clear cc hb ht
        go_wp2_with (go_at_call 16; refine (CC.out _).mono ?_; rintro e w' ⟨rfl, rfl⟩)
        go_round
        case rel => exact ⟨k + 1, by omega, by go_num, HT.out⟩
        case measure => simp [intOf]; omega
    · obtain rfl : k = s.size := by omega
      have hd : decide ((s.size : Int) < (s.size : Int)) = false := by simp
      have hdig : digs s.data.toList = true := by
        have := hrel.out
        rwa [List.take_of_length_le (by omega)] at this
      have hne : s.data.toList ≠ [] := by intro h; rw [h] at hsz; simp at hsz; omega
      have hh : s.data.toList.head? = some s[0] := by
        rw [List.head?_eq_getElem?, List.getElem?_eq_getElem (by omega)]; rfl
      have hT' := hT.out
      rw [numeralF, if_neg (by simp [hdig])] at hT'
      clear hrel
      by_cases hz : 1 < s.size ∧ (s[0].toNat : Int) = 48
      · obtain ⟨h1, hz⟩ := hz
        rw [if_pos ⟨by omega, by rw [hh, (u8_int s[0] 48).1 hz]⟩] at hT'
        subst hT'
        have hb : ((s[0].toNat : Int) == 48) = true := by rw [hz]; rfl
        clear hz hdig
        go_wp2_with fail
        go_ret
        exact ⟨rfl, rfl⟩
      · rw [if_neg (by rw [hh, hsz]; intro h; exact hz ⟨h.1, (u8_int s[0] 48).2 (Option.some.inj h.2)⟩)] at hT'
        have hlow : 1 < s.size → 10 ^ (s.size - 1) ≤ decFrom 0 s.data.toList := by
          intro h1
          cases hl : s.data.toList with
          | nil => exact absurd hl hne
          | cons c r =>
            rw [hl] at hh hsz hdig
            obtain ⟨hc, _⟩ := (digs_cons c r).1 hdig
            have hc0 : c = s[0] := by simpa using hh
            have : 49 ≤ c.toNat := by
              rcases Nat.lt_or_ge c.toNat 49 with h | h
              · exact absurd ⟨h1, by rw [← hc0]; omega⟩ hz
              · exact h
            have := decFrom_head c r this
            have e : s.size - 1 = r.length := by simp at hsz; omega
            rw [e]; exact this
        have hup := decFrom_lt _ hdig
        rw [hsz] at hup
        have hzz : 1 < s.size → ((s[0].toNat : Int) == 48) = false := by
          intro h1; rw [beq_eq_false_iff_ne]; intro h; exact hz ⟨h1, h⟩
        clear hz
        by_cases hL : 19 < s.size
        · have hp : (10 : Nat) ^ 19 ≤ 10 ^ (s.size - 1) := Nat.pow_le_pow_right (by omega) (by omega)
          have hlow := hlow (by omega)
          have e19 : (10 : Nat) ^ 19 = 10000000000000000000 := by decide
          rw [if_pos (by omega)] at hT'
          subst hT'
          have hzz := hzz (by omega)
          clear hp hlow e19 hup hdig hne hh
          go_wp2_with fail
          go_ret
          exact ⟨rfl, rfl⟩
        · by_cases hE : s.size = 19
          · have hzz := hzz (by omega)
            have hHE := Lib.hid hE
            have hcmp := less_iff s.data.toList mostL (by rw [hsz, hE]; rfl) hdig (by decide)
            have hcmp2 := less_iff mostL s.data.toList (by rw [hsz, hE]; rfl) (by decide) hdig
            have htot := less_total s.data.toList mostL (by rw [hsz, hE]; rfl)
            rw [most_dec] at hcmp hcmp2
            have hlt19 : 18 < s.size := by omega
            obtain ⟨L, hL1⟩ : ∃ L, Op.bytesLess s.data.toList mostL = L := ⟨_, rfl⟩
            obtain ⟨E, hE1⟩ : ∃ E, (s.data.toList == mostL) = E := ⟨_, rfl⟩
            have l1 : Op.bytesLess s.toList [57, 50, 50, 51, 51, 55, 50, 48, 51, 54, 56, 53, 52, 55, 55, 53, 56, 48, 55] = L := by rw [ByteArray.toList_eq]; exact hL1
            have l2 : (s.toList == [57, 50, 50, 51, 51, 55, 50, 48, 51, 54, 56, 53, 52, 55, 55, 53, 56, 48, 55]) = E := by rw [ByteArray.toList_eq]; exact hE1
            have hTT : T = if (!L && !E) = true then 6 else 0 := by
              rw [← hT']
              rw [hL1] at hcmp htot
              cases L
              · cases E
                · have h3 : Op.bytesLess mostL s.data.toList = true := by
                    cases h : Op.bytesLess mostL s.data.toList
                    · have := htot rfl h
                      rw [this] at hE1
                      exact absurd hE1 (by decide)
                    · rfl
                  rw [if_pos (by have := hcmp2.1 h3; omega)]
                  rfl
                · have : s.data.toList = mostL := by simpa using hE1
                  have e := most_dec
                  rw [← this] at e
                  rw [if_neg (by omega)]
                  rfl
              · rw [if_neg (by have := hcmp.1 rfl; omega)]
                rfl
            have HTT := Lib.hid hTT
            clear hE hup hlow hcmp hcmp2 htot hL1 hE1 hTT hT' hne hh hdig hd
            cases L <;> cases E
            all_goals
              go_wp2_with fail
              go_ret
              exact ⟨ret_int HTT.out.symm, rfl⟩
          · have e18 : (10 : Nat) ^ 18 = 1000000000000000000 := by decide
            have hp : (10 : Nat) ^ s.size ≤ 10 ^ 18 := Nat.pow_le_pow_right (by omega) (by omega)
            rw [if_neg (by omega)] at hT'
            subst hT'
            have hl18 : s.size < 19 := by omega
            have hE' : ((s.size : Int) == 19) = false := by rw [beq_eq_false_iff_ne]; omega
            clear e18 hp hup hlow hdig hne hh hL hE
            by_cases h1 : 1 < s.size
            · have hzz := hzz h1
              go_wp2_with fail
              go_ret
              exact ⟨rfl, rfl⟩
            · clear hzz
              go_wp2_with fail
              go_ret
              exact ⟨rfl, rfl⟩
end rlex
end Go.Proofs.YtpcihajmcejliaaDoor
