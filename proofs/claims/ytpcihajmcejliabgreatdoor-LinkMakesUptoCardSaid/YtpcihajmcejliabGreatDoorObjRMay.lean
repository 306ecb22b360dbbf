/- The walk of the reference's May: words, orders, places. -/
import Derived.Test.YtpcihajmcejliabGreatDoorObjMayA
import Derived.Test.YtpcihajmcejliabGreatDoorMachMay8
namespace Go.Proofs.YtpcihajmcejliabGreatDoor
open Go.RowKit Go.WideMaps Go.Maps
namespace rmayo
theorem data_inj {a b : ByteArray} (h : a.data.toList = b.data.toList) : a = b := by
  cases a; cases b
  simp only at h
  rw [Array.toList_inj.1 h]
theorem str_inj {a b : ByteArray} (h : a.toList = b.toList) : a = b := data_inj (by rw [← Lib.toList_data, ← Lib.toList_data, h])
theorem words_any (n : Int) (w : World) : Calls Tryz.prog 196 #[.int .i64 n] w fun e w' => e = .returned (.bool (wordN n)) ∧ w = w' := by
  go_enter Tryz.func196, Tryz.ntmps196
  go_wp2
  all_goals go_ret
  all_goals go_light
  all_goals refine ⟨ret_bool ?_, rfl⟩
  all_goals (simp_all [wordN]; try omega)
theorem rinstr_any (op a b c n : Int) (w : World) :
    Calls Tryz.prog 197 #[.agg #[.int .i64 op, .int .i64 a, .int .i64 b, .int .i64 c, .int .i64 n]] w fun e w' => e = .returned (.bool (instrB ⟨op, a, b, c, n⟩)) ∧ Ext w w' := by
  have HI := Lib.hid (fun (m : Int) (u : World) (h : m = bareN ⟨op, a, b, c, n⟩) => (show Calls Tryz.prog 48 #[.agg #[.int .i64 op, .int .i64 a, .int .i64 b, .int .i64 c, .int .i64 m], .int .i64 1] u fun e w' => e = .returned (.bool (instrB ⟨op, a, b, c, n⟩)) ∧ Ext u w' from by
    subst h
    refine (mof.rorder_any ⟨op, a, b, c, bareN ⟨op, a, b, c, n⟩⟩ 1 u).mono ?_
    rintro e w' ⟨rfl, h⟩
    exact ⟨rfl, Below.toExt h⟩))
  generalize instrB ⟨op, a, b, c, n⟩ = B at *
  by_cases h8 : op = 8
  · subst h8
    go_enter Tryz.func197, Tryz.ntmps197
    go_wp2_with fail
    refine (HI.out _ _ (by unfold bareN; rw [if_pos (.inl rfl)])).mono ?_
    rintro e w2 ⟨rfl, hE⟩
    go_wp2_with fail
    go_ret
    exact ⟨rfl, ((Chg.refl _ _).alloc _).ext hE⟩
  · by_cases h9 : op = 9
    · subst h9
      go_enter Tryz.func197, Tryz.ntmps197
      go_wp2_with fail
      refine (HI.out _ _ (by unfold bareN; rw [if_pos (.inr (.inl rfl))])).mono ?_
      rintro e w2 ⟨rfl, hE⟩
      go_wp2_with fail
      go_ret
      exact ⟨rfl, ((Chg.refl _ _).alloc _).ext hE⟩
    · by_cases h11 : op = 11
      · subst h11
        go_enter Tryz.func197, Tryz.ntmps197
        go_wp2_with fail
        refine (HI.out _ _ (by unfold bareN; rw [if_pos (.inr (.inr rfl))])).mono ?_
        rintro e w2 ⟨rfl, hE⟩
        go_wp2_with fail
        go_ret
        exact ⟨rfl, ((Chg.refl _ _).alloc _).ext hE⟩
      · have hne : ¬ (op = 8 ∨ op = 9 ∨ op = 11) := by omega
        have e8 : (op == 8) = false := beq_eq_false_iff_ne.2 h8
        have e9 : (op == 9) = false := beq_eq_false_iff_ne.2 h9
        have e11 : (op == 11) = false := beq_eq_false_iff_ne.2 h11
        go_enter Tryz.func197, Tryz.ntmps197
        go_wp2_with fail
        refine (HI.out _ _ (by unfold bareN; rw [if_neg hne])).mono ?_
        rintro e w2 ⟨rfl, hE⟩
        go_wp2_with fail
        go_ret
        exact ⟨rfl, ((Chg.refl _ _).alloc _).ext hE⟩
theorem dist_bad {K : List (List UInt8)} {j i : Nat} (hj : j < i) (hi : i < K.length) (e : K[j] = K[i]) : distinctB K = false := by
  rw [Bool.eq_false_iff]
  intro h
  have e1 : K = K.take (i + 1) ++ K.drop (i + 1) := (List.take_append_drop _ K).symm
  rw [e1] at h
  have h2 := face.distinct_left _ _ h
  rw [List.take_succ_eq_append_getElem hi, face.distinct_append_one, Bool.and_eq_true] at h2
  have h3 := h2.2
  simp only [Bool.not_eq_true', List.contains_eq_mem, decide_eq_false_iff_not] at h3
  exact h3 (by rw [← e]; exact List.mem_iff_getElem.2 ⟨j, by rw [List.length_take]; omega, by rw [List.getElem_take]⟩)
theorem dist_next {K : List (List UInt8)} {i : Nat} (hi : i < K.length) (h : distinctB (K.take i) = true) (hn : ∀ j (hj : j < i), K[j] ≠ K[i]) : distinctB (K.take (i + 1)) = true := by
  rw [List.take_succ_eq_append_getElem hi, face.distinct_append_one, h, Bool.true_and]
  simp only [Bool.not_eq_true', List.contains_eq_mem, decide_eq_false_iff_not]
  intro hm
  obtain ⟨j, hj, e⟩ := List.mem_iff_getElem.1 hm
  rw [List.length_take] at hj
  rw [List.getElem_take] at e
  exact hn j (by omega) e
theorem dist_all {K : List (List UInt8)} {i : Nat} (hi : K.length = i) (h : distinctB (K.take i) = true) : distinctB K = true := by
  rw [List.take_of_length_le (by omega)] at h; exact h
set_option maxRecDepth 100000 in
set_option maxHeartbeats 8000000 in
theorem places_any (a : Option Addr) (l : List FPlc) (n cap : Nat) (below : Int) (w : World) (hn : l.length = n) (hmax : n ≤ 1048576) (hl : AllIn 2 PlcIn w a l) :
    Calls Tryz.prog 198 #[.slice a n cap, .int .i64 below] w fun e w' => e = .returned (.bool (placesB l below)) ∧ Ext w w' := by
  have HN := Lib.hid hn
  have HL := Lib.hid hl
  have HK : Hid (∀ (k : Nat) (h : k < l.length) (h2 : k < (l.map FPlc.key).length), (l.map FPlc.key)[k] = l[k].name.data.toList) := fun k h h2 => by rw [List.getElem_map]; rfl
  have HKL := Lib.hid (show (l.map FPlc.key).length = n by rw [List.length_map, hn])
  unfold placesB
  generalize l.map FPlc.key = K at *
  generalize hB : (l.all (plcB below) && distinctB K) = B
  have HF1 := Lib.hid (fun h : l.all (plcB below) = false => show B = false by rw [← hB, h]; rfl)
  have HF2 := Lib.hid (fun h : distinctB K = false => show B = false by rw [← hB, h, Bool.and_false])
  have HT := Lib.hid (fun (h : l.all (plcB below) = true) (h2 : distinctB K = true) => show B = true by rw [← hB, h, h2]; rfl)
  clear hn hl hB
  go_enter Tryz.func198, Tryz.ntmps198
  go_wp2_with fail
  go_loopw [5] (fun i wr => ∃ k : Nat, k ≤ n ∧ i = .int .i64 k ∧ Hid ((l.take k).all (plcB below) = true) ∧ Hid (distinctB (K.take k) = true) ∧ Ext w wr) (fun i _ => n - (intOf i).toNat)
  case atStart => exact ⟨0, Nat.zero_le _, rfl, by simp [Hid], rfl, Chg.refl _ _⟩
  case round =>
    obtain ⟨k, hk, rfl, hr1, hr2, hE⟩ := hrel
    by_cases hlt : k < n
    · have hki : (k : Int) < (n : Int) := by omega
      have hlk : k < l.length := by rw [HN.out]; exact hlt
      have hkk : k < K.length := by rw [HKL.out]; exact hlt
      obtain ⟨bl, ol, rfl, hbl, cl⟩ := HL.out k hlk
      have hbl' := Nat.lt_of_lt_of_le hbl hE.size
      obtain ⟨l0, l1, lz, -⟩ := PlcIn.ext hE hbl cl
      have HC0 : Hid (∀ u, Ext wr u → u.cell? ⟨bl, ol + k * 2, none⟩ = some (.string l[k].name)) := fun u hu => (hu.cell (by exact hbl') id).trans l0
      have hs := face.all_snoc (plcB below) l k hlk
      rw [hr1.out, Bool.true_and] at hs
      have HBAD := Lib.hid (fun h => HF1.out (face.all_bad hlk h))
      have HW := Lib.hid (HK.out k hlk hkk)
      have HD1 := Lib.hid (fun (j : Nat) (hj : j < k) (e : K[j] = K[k]) => HF2.out (dist_bad hj hkk e))
      have HD2 := Lib.hid (fun hn => dist_next hkk hr2.out hn)
      clear cl hr1 hr2
      generalize l[k] = x at *
      obtain ⟨pn, pa⟩ := x
      simp only at l0 l1 lz HW HC0
      have HS := Lib.hid hs
      have hvt : plcB below ⟨pn, pa⟩ = (nameB pn.data.toList && decide (0 ≤ pa) && decide (pa < below)) := rfl
      have HVN := Lib.hid (fun w => rname.name_any pn w (by unfold maxLen at lz; exact lz))
      obtain ⟨nb, hnb⟩ : ∃ b, nameB pn.data.toList = b := ⟨_, rfl⟩
      rw [hnb] at hvt HVN
      have HVT := Lib.hid hvt
      clear hs hvt hnb
      go_wp2_with fail
      refine (HVN.out _).mono ?_
      rintro e w2 ⟨rfl, hE2⟩
      have l1' := (hE2.cell (p := ⟨bl, ol + k * 2 + 1, none⟩) (by exact hbl') id).trans l1
      have hbl2 := Nat.lt_of_lt_of_le hbl' hE2.size
      have HE2 := Lib.hid hE2
      have HEw := Lib.hid (hE.ext hE2)
      clear hE2 HVN l0 l1 hE
      cases nb
      · have HT2 := Lib.hid (HBAD.out (by rw [HVT.out]; rfl))
        go_wp2_with fail
        go_ret
        exact ⟨ret_bool HT2.out.symm, HEw.out⟩
      · by_cases h0 : pa < 0
        · have HT2 := Lib.hid (HBAD.out (by rw [HVT.out, decide_eq_false (show ¬ 0 ≤ pa by omega)]; rfl))
          go_wp2_with fail
          go_ret
          exact ⟨ret_bool HT2.out.symm, HEw.out⟩
        · by_cases h1 : below ≤ pa
          · have HT2 := Lib.hid (HBAD.out (by rw [HVT.out, decide_eq_false (show ¬ pa < below by omega), Bool.and_false]))
            go_wp2_with fail
            go_ret
            exact ⟨ret_bool HT2.out.symm, HEw.out⟩
          · have HT2 := Lib.hid (HS.out.trans (by rw [HVT.out, decide_eq_true (show 0 ≤ pa by omega), decide_eq_true (show pa < below by omega)]))
            clear HS HBAD HVT
            go_wp2_with fail
            have HCK := Lib.hid (HC0.out _ HE2.out)
            clear l1'
            go_loopw [6] (fun i wr2 => ∃ j : Nat, j ≤ k ∧ i = .int .i64 j ∧ Hid (∀ q (hq : q < j) (hq2 : q < K.length), K[q] ≠ K[k]) ∧ Ext w2 wr2) (fun i _ => k - (intOf i).toNat)
            case atStart => exact ⟨0, Nat.zero_le _, rfl, fun q hq => absurd hq (by omega), Chg.refl _ _⟩
            case round =>
              obtain ⟨j, hj, rfl, hr3, hE3⟩ := hrel
              by_cases hlt3 : j < k
              · have hji : (j : Int) < (k : Int) := by omega
                have hjn : (j : Int) < (n : Int) := by omega
                have hlj : j < l.length := by rw [HN.out]; omega
                have hkj : j < K.length := by rw [HKL.out]; omega
                obtain ⟨b2, o2, e2, hb2, cj⟩ := HL.out j hlj
                cases e2
                have hEj := HEw.out.ext hE3
                obtain ⟨m0, -, -, -⟩ := PlcIn.ext hEj hbl cj
                have k0 := (hE3.cell (p := ⟨bl, ol + k * 2, none⟩) (by exact hbl2) id).trans HCK.out
                have hbl3 := Nat.lt_of_lt_of_le hbl2 hE3.size
                have HWJ := Lib.hid (HK.out j hlj hkj)
                clear cj
                generalize l[j] = y at *
                obtain ⟨qn, qa⟩ := y
                simp only at m0 HWJ
                by_cases he : qn = pn
                · have hxy : (qn.toList == pn.toList) = true := by rw [he]; exact beq_self_eq_true _
                  have HT3 := Lib.hid (HD1.out j hlt3 (by rw [HWJ.out, HW.out, he]))
                  clear he
                  go_wp2_with fail
                  go_quiet (fail)
                  go_wp2_with fail
                  go_ret
                  exact ⟨ret_bool HT3.out.symm, hEj.drewN _⟩
                · have hxy : (qn.toList == pn.toList) = false := by
                    rw [beq_eq_false_iff_ne]
                    exact fun e => he (str_inj e)
                  have HNX : Hid (K[j] ≠ K[k]) := fun e => he (data_inj (by rw [← HWJ.out, ← HW.out, e]))
                  clear he
                  go_wp2_with fail
                  go_quiet (fail)
                  go_wp2_with fail
                  go_roundw
                  case rel =>
                    refine ⟨j + 1, by omega, by go_num, ?_, hE3.drewN _⟩
                    intro q hq hq2
                    by_cases e : q = j
                    · subst e; exact HNX.out
                    · exact hr3.out q (by omega) hq2
                  case measure => simp [intOf]; omega
              · obtain rfl : j = k := by omega
                have HT3 := Lib.hid (HD2.out fun q hq => hr3.out q hq (by omega))
                go_wp2_with fail
                go_roundw
                case rel => exact ⟨j + 1, by omega, by go_num, HT2.out, HT3.out, HEw.out.ext hE3⟩
                case measure => simp [intOf]; omega
    · obtain rfl : k = n := by omega
      have HT2 := Lib.hid (HT.out (face.all_whole HN.out hr1.out) (dist_all HKL.out hr2.out))
      go_wp2_with fail
      go_ret
      exact ⟨ret_bool HT2.out.symm, hE⟩
end rmayo
end Go.Proofs.YtpcihajmcejliabGreatDoor
