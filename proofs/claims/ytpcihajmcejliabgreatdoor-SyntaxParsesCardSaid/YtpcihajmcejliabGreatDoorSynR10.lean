/- The reference's Many, Deep, Fits. -/
import Derived.Test.YtpcihajmcejliabGreatDoorSynR9
import Derived.Test.YtpcihajmcejliabGreatDoorSynWA
namespace Go.Proofs.YtpcihajmcejliabGreatDoor
open Go.RowKit
namespace synr
open synw
set_option maxRecDepth 100000 in
set_option maxHeartbeats 4000000 in
theorem many_any : ∀ (x : Nd) (v : Value) (w : World) (most : Nat) (H : Nat → Bool), NdAt (hide H w) x v → most ≤ 500 →
    Calls Tryz.prog 163 #[v, .int .i64 (most : Nat)] w fun e w' => e = .returned (.int .i64 (min (szF x) (most + 1) : Nat)) ∧ Ext w w' := by
  refine nd_ind fun k t n l ih v w most H hx hmo => ?_
  rw [ndAt_mk] at hx
  obtain ⟨a, cc, rfl, hx1, hx2, hx3, hx4⟩ := hx
  obtain ⟨N, hN⟩ : ∃ N, l.length = N := ⟨_, rfl⟩
  have hNm : N ≤ 9223372036854775807 := by unfold maxLen at hx2; omega
  have HN := Lib.hid hN
  rw [hN]
  have HIH := Lib.hid ih
  have HI := Lib.hid (fun (u : World) (hE : Ext w u) => hx4.keeps (keeps_chg hE fun i _ e => e.elim) fun b o y => ndIn_keeps (keeps_chg hE fun i _ e => e.elim) b o y)
  obtain ⟨R, hR⟩ : ∃ R, min (szF (.mk k t n l)) (most + 1) = R := ⟨_, rfl⟩
  rw [hR]
  have HR := Lib.hid hR
  have hK := (Blk.made w #[.int .i64 k, .string t, .int .i64 n, .slice a N cc] 66).cell
  have hE1 := (Chg.refl (fun _ => False) w).alloc (.cells #[.int .i64 k, .string t, .int .i64 n, .slice a N cc] 66)
  have HK := Lib.hid (Blk.made w #[.int .i64 k, .string t, .int .i64 n, .slice a N cc] 66)
  have HE1 := Lib.hid hE1
  obtain ⟨P, hP⟩ : ∃ P, w.heap.size = P := ⟨_, rfl⟩
  rw [hP] at HK
  clear hR hx4 hN ih hE1 hK
  go_enter Tryz.func163, Tryz.ntmps163
  go_upto_region 1 with (fail)
  generalize w.alloc (.cells #[.int .i64 k, .string t, .int .i64 n, .slice a N cc] 66) = w1 at *
  go_wp2_with fail
  go_loopw [5, 6] (fun kk i wr => ∃ q m : Nat, q ≤ N ∧ kk = .int .i64 m ∧ i = .int .i64 q ∧ m ≤ most + 1 ∧ Hid (min (m + szL (l.drop q)) (most + 1) = R) ∧ Hid (Ext w wr) ∧ Hid (Blk wr P #[.int .i64 k, .string t, .int .i64 n, .slice a N cc] 66)) (fun _ i _ => N - (intOf i).toNat)
  case atStart => exact ⟨0, 1, Nat.zero_le _, rfl, rfl, by omega, by have := HR.out; simp only [szF] at this; rw [List.drop_zero, Nat.add_comm]; exact this, HE1, HK⟩
  clear HE1 HK
  case round =>
    obtain ⟨q, m, hq, rfl, rfl, hm, hr, HE, HK⟩ := hrel
    have hc := HK.out.cell
    by_cases hlt : q < N
    · have hql : q < l.length := by rw [HN.out]; exact hlt
      have hqi : (q : Int) < (N : Int) := by omega
      have hqd : decide ((q : Int) < (N : Int)) = true := by simpa using hqi
      by_cases hmm : m ≤ most
      · have hmi : decide ((m : Int) ≤ (most : Int)) = true := by simp; omega
        obtain ⟨b, o, rfl, hb, u, hu, hus, hcl⟩ := HI.out wr HE.out q hql
        obtain ⟨k1, t1, n1, a1, l1, c1, rfl⟩ := nd_form hu
        have q0 : wr.cell? ⟨b, o + q * 4, none⟩ = some (.int .i64 k1) := (keeps_bare H wr).2 _ _ ((hcl 0 (by decide)).trans rfl)
        have q1 : wr.cell? ⟨b, o + q * 4 + 1, none⟩ = some (.string t1) := (keeps_bare H wr).2 _ _ ((hcl 1 (by decide)).trans rfl)
        have q2 : wr.cell? ⟨b, o + q * 4 + 2, none⟩ = some (.int .i64 n1) := (keeps_bare H wr).2 _ _ ((hcl 2 (by decide)).trans rfl)
        have q3 : wr.cell? ⟨b, o + q * 4 + 3, none⟩ = some (.slice a1 l1 c1) := (keeps_bare H wr).2 _ _ ((hcl 3 (by decide)).trans rfl)
        have hsw : IntKind.i64.wrap ((most : Int) - (m : Int)) = ((most - m : Nat) : Int) := by rw [wrap_small _ (by omega) (by omega)]; omega
        have hsw2 : wrap64 ((most : Int) - (m : Int)) = ((most - m : Nat) : Int) := by unfold wrap64; omega
        have HC := Lib.hid (HIH.out l[q] (List.getElem_mem hql) _ wr (most - m) H hu (by omega))
        have hr2 := hr.out
        rw [szL_drop hql] at hr2
        obtain ⟨z, hz⟩ : ∃ z, szF l[q] = z := ⟨_, rfl⟩
        rw [hz] at hr2 HC
        have hpw : IntKind.i64.wrap ((m : Int) + ((min z (most - m + 1) : Nat) : Int)) = ((m + min z (most - m + 1) : Nat) : Int) := by rw [wrap_small _ (by omega) (by omega)]; omega
        have HR3 := Lib.hid hr2
        clear hr hr2 hcl hu hz
        go_wp2_with fail
        refine HC.out.mono ?_
        rintro e w5 ⟨rfl, hE5⟩
        have HE5 := Lib.hid (HE.out.ext hE5)
        have HK5 := Lib.hid (HK.out.ext hE5)
        clear hE5 HC HE HK q0 q1 q2 q3 hc
        go_wp2_with fail
        go_roundw
        case rel => exact ⟨q + 1, m + min z (most - m + 1), by omega, by first | rfl | simp [hpw], by go_num, by omega, by have := HR3.out; show min (_ + szL (l.drop (q + 1))) (most + 1) = R; omega, HE5, HK5⟩
        case measure => simp [intOf]; omega
      · have hmi : decide ((m : Int) ≤ (most : Int)) = false := by simp; omega
        have hT := Lib.hid (show R = m by have := hr.out; omega)
        clear hr
        go_wp2_with fail
        go_ret
        refine ⟨?_, HE.out⟩; have e := hT.out; subst e; first | rfl | simp
    · obtain rfl : q = N := by omega
      have hqd : decide ((q : Int) < (q : Int)) = false := by simp
      have hT := Lib.hid (show R = m by have := hr.out; rw [List.drop_of_length_le (by rw [HN.out]; exact Nat.le_refl _)] at this; simp only [szL] at this; omega)
      clear hr
      go_wp2_with fail
      go_ret
      refine ⟨?_, HE.out⟩; have e := hT.out; subst e; first | rfl | simp
set_option maxRecDepth 100000 in
set_option maxHeartbeats 4000000 in
theorem deep_any : ∀ (x : Nd) (v : Value) (w : World) (most : Nat) (H : Nat → Bool), NdAt (hide H w) x v → most ≤ 500 →
    Calls Tryz.prog 164 #[v, .int .i64 (most : Nat)] w fun e w' => e = .returned (.int .i64 (min (dpF x) (most + 1) : Nat)) ∧ Ext w w' := by
  refine nd_ind fun k t n l ih v w most H hx hmo => ?_
  rw [ndAt_mk] at hx
  obtain ⟨a, cc, rfl, hx1, hx2, hx3, hx4⟩ := hx
  obtain ⟨N, hN⟩ : ∃ N, l.length = N := ⟨_, rfl⟩
  have hNm : N ≤ 9223372036854775807 := by unfold maxLen at hx2; omega
  have HN := Lib.hid hN
  rw [hN]
  have HIH := Lib.hid ih
  have HI := Lib.hid (fun (u : World) (hE : Ext w u) => hx4.keeps (keeps_chg hE fun i _ e => e.elim) fun b o y => ndIn_keeps (keeps_chg hE fun i _ e => e.elim) b o y)
  obtain ⟨R, hR⟩ : ∃ R, min (dpF (.mk k t n l)) (most + 1) = R := ⟨_, rfl⟩
  rw [hR]
  have HR := Lib.hid hR
  have hK := (Blk.made w #[.int .i64 k, .string t, .int .i64 n, .slice a N cc] 66).cell
  have hE1 := (Chg.refl (fun _ => False) w).alloc (.cells #[.int .i64 k, .string t, .int .i64 n, .slice a N cc] 66)
  have HK := Lib.hid (Blk.made w #[.int .i64 k, .string t, .int .i64 n, .slice a N cc] 66)
  have HE1 := Lib.hid hE1
  obtain ⟨P, hP⟩ : ∃ P, w.heap.size = P := ⟨_, rfl⟩
  rw [hP] at HK
  clear hR hx4 hN ih hE1 hK
  go_enter Tryz.func164, Tryz.ntmps164
  go_upto_region 1 with (fail)
  generalize w.alloc (.cells #[.int .i64 k, .string t, .int .i64 n, .slice a N cc] 66) = w1 at *
  go_wp2_with fail
  go_loopw [5, 6] (fun kk i wr => ∃ q m : Nat, q ≤ N ∧ kk = .int .i64 m ∧ i = .int .i64 q ∧ m ≤ most ∧ Hid (max m (min (dpL (l.drop q)) most) + 1 = R) ∧ Hid (Ext w wr) ∧ Hid (Blk wr P #[.int .i64 k, .string t, .int .i64 n, .slice a N cc] 66)) (fun _ i _ => N - (intOf i).toNat)
  case atStart => exact ⟨0, 0, Nat.zero_le _, rfl, rfl, by omega, by have := HR.out; simp only [dpF] at this; show max 0 (min (dpL (l.drop 0)) most) + 1 = R; rw [List.drop_zero]; omega, HE1, HK⟩
  clear HE1 HK
  case round =>
    obtain ⟨q, m, hq, rfl, rfl, hm, hr, HE, HK⟩ := hrel
    have hc := HK.out.cell
    by_cases hlt : q < N
    · have hql : q < l.length := by rw [HN.out]; exact hlt
      have hqi : (q : Int) < (N : Int) := by omega
      have hqd : decide ((q : Int) < (N : Int)) = true := by simpa using hqi
      by_cases hmm : 0 < most
      · have hmi : decide ((m : Int) ≤ (most : Int)) = true := by simp; omega
        have hm0 : decide ((0 : Int) < (most : Int)) = true := by simp; omega
        obtain ⟨b, o, rfl, hb, u, hu, hus, hcl⟩ := HI.out wr HE.out q hql
        obtain ⟨k1, t1, n1, a1, l1, c1, rfl⟩ := nd_form hu
        have q0 : wr.cell? ⟨b, o + q * 4, none⟩ = some (.int .i64 k1) := (keeps_bare H wr).2 _ _ ((hcl 0 (by decide)).trans rfl)
        have q1 : wr.cell? ⟨b, o + q * 4 + 1, none⟩ = some (.string t1) := (keeps_bare H wr).2 _ _ ((hcl 1 (by decide)).trans rfl)
        have q2 : wr.cell? ⟨b, o + q * 4 + 2, none⟩ = some (.int .i64 n1) := (keeps_bare H wr).2 _ _ ((hcl 2 (by decide)).trans rfl)
        have q3 : wr.cell? ⟨b, o + q * 4 + 3, none⟩ = some (.slice a1 l1 c1) := (keeps_bare H wr).2 _ _ ((hcl 3 (by decide)).trans rfl)
        have hsw : IntKind.i64.wrap ((most : Int) - 1) = ((most - 1 : Nat) : Int) := by rw [wrap_small _ (by omega) (by omega)]; omega
        have hsw2 : wrap64 ((most : Int) - 1) = ((most - 1 : Nat) : Int) := by unfold wrap64; omega
        have HC := Lib.hid (HIH.out l[q] (List.getElem_mem hql) _ wr (most - 1) H hu (by omega))
        have hr2 := hr.out
        rw [dpL_drop hql] at hr2
        obtain ⟨z, hz⟩ : ∃ z, dpF l[q] = z := ⟨_, rfl⟩
        rw [hz] at hr2 HC
        have hpw : min z (most - 1 + 1) = min z most := by omega
        rw [hpw] at HC
        obtain ⟨y, hy⟩ : ∃ y, min z most = y := ⟨_, rfl⟩
        rw [hy] at HC
        have HY := Lib.hid hy
        clear hpw hy
        have HR3 := Lib.hid hr2
        clear hr hr2 hcl hu hz
        go_wp2_with fail
        refine HC.out.mono ?_
        rintro e w5 ⟨rfl, hE5⟩
        have HE5 := Lib.hid (HE.out.ext hE5)
        have HK5 := Lib.hid (HK.out.ext hE5)
        clear hE5 HC HE HK q0 q1 q2 q3 hc
        go_wp2_with fail
        go_roundw
        case rel => exact ⟨q + 1, max m y, by omega, congrArg (Value.int .i64) (by omega), by go_num, by have := HY.out; omega, by have := HR3.out; have := HY.out; show max (max m y) (min (dpL (l.drop (q + 1))) most) + 1 = R; omega, HE5, HK5⟩
        case measure => simp [intOf]; omega
      · have hm0 : decide ((0 : Int) < (most : Int)) = false := by simp; omega
        have hT := Lib.hid (show R = m + 1 by have := hr.out; omega)
        clear hr
        go_wp2_with fail
        go_ret
        refine ⟨?_, HE.out⟩; have e := hT.out; subst e; first | rfl | simp
    · obtain rfl : q = N := by omega
      have hqd : decide ((q : Int) < (q : Int)) = false := by simp
      have hT := Lib.hid (show R = m + 1 by have := hr.out; rw [List.drop_of_length_le (by rw [HN.out]; exact Nat.le_refl _)] at this; simp only [dpL] at this; omega)
      clear hr
      go_wp2_with fail
      go_ret
      refine ⟨?_, HE.out⟩; have e := hT.out; subst e; first | rfl | simp
set_option maxRecDepth 100000 in
set_option maxHeartbeats 4000000 in
theorem fits_any {x : Nd} {v : Value} {w : World} {H : Nat → Bool} (hx : NdAt (hide H w) x v) :
    Calls Tryz.prog 92 #[v] w fun e w' => e = .returned (.bool (weighF 16 x 0).1) ∧ Ext w w' := by
  obtain ⟨k, t, n, a, c, cc, rfl⟩ := nd_form hx
  have hE1 := (Chg.refl (fun _ => False) w).alloc (.cells #[.int .i64 k, .string t, .int .i64 n, .slice a c cc] 66)
  have HK := Lib.hid (Blk.made w #[.int .i64 k, .string t, .int .i64 n, .slice a c cc] 66)
  have HX := Lib.hid (fun (u : World) (hE : Ext w u) => ndAt_keeps (keeps_chg (M := H) hE fun i _ e => e.elim) _ _ hx)
  obtain ⟨P, hP⟩ : ∃ P, w.heap.size = P := ⟨_, rfl⟩
  rw [hP] at HK
  have hlaw := (weigh_law 16 x 0 (by omega)).1
  rw [Nat.zero_add] at hlaw
  have HLA := Lib.hid hlaw
  have HE1 := Lib.hid hE1
  have hmo := many_any x _ _ 500 H (HX.out _ hE1) (by omega)
  obtain ⟨R, hR⟩ : ∃ R, (weighF 16 x 0).1 = R := ⟨_, rfl⟩
  rw [hR]
  have HR := Lib.hid hR
  have HM := Lib.hid hmo
  clear hR hmo hlaw hx hE1
  go_enter Tryz.func92, Tryz.ntmps92
  go_upto_region 1 with (fail)
  generalize w.alloc (.cells #[.int .i64 k, .string t, .int .i64 n, .slice a c cc] 66) = w1 at *
  have hc := HK.out.cell
  obtain ⟨y, hy⟩ : ∃ y, min (szF x) (500 + 1) = y := ⟨_, rfl⟩
  rw [hy] at HM
  have HY := Lib.hid hy
  clear hy
  go_wp2_with fail
  refine HM.out.mono ?_
  rintro e w2 ⟨rfl, hE2⟩
  have HE2 := Lib.hid (HE1.out.ext hE2)
  have hc2 := (HK.out.ext hE2).cell
  clear hE2 hc HM HE1
  by_cases h5 : y ≤ 500
  · have hg2 : ¬ ((y : Int) > 500) := by omega
    have hg3 : decide ((500 : Int) < (y : Int)) = false := by simp; omega
    have hd := deep_any x _ w2 16 H (HX.out _ HE2.out) (by omega)
    obtain ⟨d, hdd⟩ : ∃ d, min (dpF x) (16 + 1) = d := ⟨_, rfl⟩
    rw [hdd] at hd
    have HD := Lib.hid hd
    have hT : decide ((d : Int) ≤ 16) = R := by
      rw [← HR.out]
      have := HY.out
      cases h : (weighF 16 x 0).1 with
      | true => have := HLA.out.1 h; simp; omega
      | false =>
        have : ¬ (dpF x ≤ 16 ∧ szF x ≤ 500) := fun q => by rw [HLA.out.2 q] at h; cases h
        simp; omega
    have HT := Lib.hid hT
    clear hd hdd hT
    go_wp2_with fail
    refine HD.out.mono ?_
    rintro e w3 ⟨rfl, hE3⟩
    have HE3 := Lib.hid (HE2.out.ext hE3)
    clear hE3 HD
    go_wp2_with fail
    go_ret
    exact ⟨by first | exact ret_bool HT.out | (rw [← HT.out]; first | rfl | simp), HE3.out⟩
  · have hg2 : (y : Int) > 500 := by omega
    have hg3 : decide ((500 : Int) < (y : Int)) = true := by simp; omega
    have hT : R = false := by
      rw [← HR.out]
      have := HY.out
      cases h : (weighF 16 x 0).1 with
      | true => have := HLA.out.1 h; omega
      | false => rfl
    have HT := Lib.hid hT
    clear hT
    go_wp2_with fail
    go_ret
    exact ⟨ret_bool HT.out.symm, HE2.out⟩
end synr
end Go.Proofs.YtpcihajmcejliabGreatDoor
