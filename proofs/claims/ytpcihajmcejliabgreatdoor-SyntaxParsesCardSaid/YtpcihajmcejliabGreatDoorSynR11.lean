/- The reference's Same. -/
import Derived.Test.YtpcihajmcejliabGreatDoorSynR10
import Derived.Deep.RegionHeld3
namespace Go.Proofs.YtpcihajmcejliabGreatDoor
open Go.RowKit
namespace synr
open synw
set_option maxRecDepth 100000 in
set_option maxHeartbeats 4000000 in
theorem same_any : ∀ (x : Nd) (v1 v2 : Value) (w : World) (H1 H2 : Nat → Bool), NdAt (hide H1 w) x v1 → NdAt (hide H2 w) x v2 →
    Calls Tryz.prog 26 #[v1, v2] w fun e w' => e = .returned (.bool true) ∧ Ext w w' := by
  refine nd_ind fun k t n l ih v1 v2 w H1 H2 hx hy => ?_
  rw [ndAt_mk] at hx hy
  obtain ⟨a, cc, rfl, hx1, hx2, hx3, hx4⟩ := hx
  obtain ⟨a', cc', rfl, hy1, hy2, hy3, hy4⟩ := hy
  obtain ⟨N, hN⟩ : ∃ N, l.length = N := ⟨_, rfl⟩
  have hNm : N ≤ 9223372036854775807 := by unfold maxLen at hx2; omega
  have HN := Lib.hid hN
  rw [hN]
  have HIH := Lib.hid ih
  have HI := Lib.hid (fun (u : World) (hE : Ext w u) => hx4.keeps (keeps_chg hE fun i _ e => e.elim) fun b o y => ndIn_keeps (keeps_chg hE fun i _ e => e.elim) b o y)
  have HJ := Lib.hid (fun (u : World) (hE : Ext w u) => hy4.keeps (keeps_chg hE fun i _ e => e.elim) fun b o y => ndIn_keeps (keeps_chg hE fun i _ e => e.elim) b o y)
  have hE1 := ((Chg.refl (fun _ => False) w).alloc (.cells #[.int .i64 k, .string t, .int .i64 n, .slice a N cc] 66)).alloc (.cells #[.int .i64 k, .string t, .int .i64 n, .slice a' N cc'] 66)
  have HK := Lib.hid ((Blk.made w #[.int .i64 k, .string t, .int .i64 n, .slice a N cc] 66).alloc (.cells #[.int .i64 k, .string t, .int .i64 n, .slice a' N cc'] 66))
  have HL := Lib.hid (Blk.made2 w (.cells #[.int .i64 k, .string t, .int .i64 n, .slice a N cc] 66) #[.int .i64 k, .string t, .int .i64 n, .slice a' N cc'] 66)
  have HE1 := Lib.hid hE1
  obtain ⟨P, hP⟩ : ∃ P, w.heap.size = P := ⟨_, rfl⟩
  rw [hP] at HK HL
  have hPP : P ≠ P + 1 := by omega
  have ht : (t.toList == t.toList) = true := by simp
  clear hx4 hy4 hN ih hE1
  go_enter Tryz.func26, Tryz.ntmps26
  go_upto_region 1 with (fail)
  generalize (w.alloc (.cells #[.int .i64 k, .string t, .int .i64 n, .slice a N cc] 66)).alloc (.cells #[.int .i64 k, .string t, .int .i64 n, .slice a' N cc'] 66) = w1 at *
  have hk := HK.out.cell
  have hl := HL.out.cell
  go_wp2_with fail
  clear hk hl
  go_loopw [5] (fun i wr => ∃ q : Nat, q ≤ N ∧ i = .int .i64 q ∧ Hid (Ext w wr) ∧ Hid (Blk wr P #[.int .i64 k, .string t, .int .i64 n, .slice a N cc] 66) ∧ Hid (Blk wr (P + 1) #[.int .i64 k, .string t, .int .i64 n, .slice a' N cc'] 66)) (fun i _ => N - (intOf i).toNat)
  case atStart => exact ⟨0, Nat.zero_le _, rfl, HE1, HK, HL⟩
  clear HE1 HK HL
  case round =>
    obtain ⟨q, hq, rfl, HE, HK, HL⟩ := hrel
    have hk := HK.out.cell
    have hl := HL.out.cell
    by_cases hlt : q < N
    · have hql : q < l.length := by rw [HN.out]; exact hlt
      have hqi : (q : Int) < (N : Int) := by omega
      have hqd : decide ((q : Int) < (N : Int)) = true := by simpa using hqi
      obtain ⟨b, o, rfl, hb, u, hu, hus, hcl⟩ := HI.out wr HE.out q hql
      obtain ⟨b', o', rfl, hb', u', hu', hus', hcl'⟩ := HJ.out wr HE.out q hql
      rw [hide_size] at hb hb'
      obtain ⟨k1, t1, n1, a1, l1, c1, rfl⟩ := nd_form hu
      obtain ⟨k2, t2, n2, a2, l2, c2, rfl⟩ := nd_form hu'
      have p0 : wr.cell? ⟨b, o + q * 4, none⟩ = some (.int .i64 k1) := (keeps_bare H1 wr).2 _ _ ((hcl 0 (by decide)).trans rfl)
      have p1 : wr.cell? ⟨b, o + q * 4 + 1, none⟩ = some (.string t1) := (keeps_bare H1 wr).2 _ _ ((hcl 1 (by decide)).trans rfl)
      have p2 : wr.cell? ⟨b, o + q * 4 + 2, none⟩ = some (.int .i64 n1) := (keeps_bare H1 wr).2 _ _ ((hcl 2 (by decide)).trans rfl)
      have p3 : wr.cell? ⟨b, o + q * 4 + 3, none⟩ = some (.slice a1 l1 c1) := (keeps_bare H1 wr).2 _ _ ((hcl 3 (by decide)).trans rfl)
      have r0 : wr.cell? ⟨b', o' + q * 4, none⟩ = some (.int .i64 k2) := (keeps_bare H2 wr).2 _ _ ((hcl' 0 (by decide)).trans rfl)
      have r1 : wr.cell? ⟨b', o' + q * 4 + 1, none⟩ = some (.string t2) := (keeps_bare H2 wr).2 _ _ ((hcl' 1 (by decide)).trans rfl)
      have r2 : wr.cell? ⟨b', o' + q * 4 + 2, none⟩ = some (.int .i64 n2) := (keeps_bare H2 wr).2 _ _ ((hcl' 2 (by decide)).trans rfl)
      have r3 : wr.cell? ⟨b', o' + q * 4 + 3, none⟩ = some (.slice a2 l2 c2) := (keeps_bare H2 wr).2 _ _ ((hcl' 3 (by decide)).trans rfl)
      have HC := Lib.hid (fun (w' : World) (hE : Ext wr w') => HIH.out l[q] (List.getElem_mem hql) _ _ w' H1 H2 (ndAt_keeps (keeps_chg hE fun _ _ h => h.elim) _ _ hu) (ndAt_keeps (keeps_chg hE fun _ _ h => h.elim) _ _ hu'))
      have k3 : wr.cell? ⟨P, 3, none⟩ = some (.slice (some ⟨b, o, none⟩) N cc) := (hk 3).trans rfl
      have l3 : wr.cell? ⟨P + 1, 3, none⟩ = some (.slice (some ⟨b', o', none⟩) N cc') := (hl 3).trans rfl
      have hPl := HK.out.lt
      have hPl2 := HL.out.lt
      have HKE := Lib.hid (fun (u : World) (hE : Ext wr u) => (⟨hE, (hE.cell (p := ⟨P, 3, none⟩) hPl id).trans k3, (hE.cell (p := ⟨P + 1, 3, none⟩) hPl2 id).trans l3, (hE.cell (p := ⟨b, o + q * 4, none⟩) hb id).trans p0, (hE.cell (p := ⟨b, o + q * 4 + 1, none⟩) hb id).trans p1, (hE.cell (p := ⟨b, o + q * 4 + 2, none⟩) hb id).trans p2, (hE.cell (p := ⟨b, o + q * 4 + 3, none⟩) hb id).trans p3, (hE.cell (p := ⟨b', o' + q * 4, none⟩) hb' id).trans r0, (hE.cell (p := ⟨b', o' + q * 4 + 1, none⟩) hb' id).trans r1, (hE.cell (p := ⟨b', o' + q * 4 + 2, none⟩) hb' id).trans r2, (hE.cell (p := ⟨b', o' + q * 4 + 3, none⟩) hb' id).trans r3⟩ : Ext wr u ∧ u.cell? ⟨P, 3, none⟩ = some (.slice (some ⟨b, o, none⟩) N cc) ∧ u.cell? ⟨P + 1, 3, none⟩ = some (.slice (some ⟨b', o', none⟩) N cc') ∧ u.cell? ⟨b, o + q * 4, none⟩ = some (.int .i64 k1) ∧ u.cell? ⟨b, o + q * 4 + 1, none⟩ = some (.string t1) ∧ u.cell? ⟨b, o + q * 4 + 2, none⟩ = some (.int .i64 n1) ∧ u.cell? ⟨b, o + q * 4 + 3, none⟩ = some (.slice a1 l1 c1) ∧ u.cell? ⟨b', o' + q * 4, none⟩ = some (.int .i64 k2) ∧ u.cell? ⟨b', o' + q * 4 + 1, none⟩ = some (.string t2) ∧ u.cell? ⟨b', o' + q * 4 + 2, none⟩ = some (.int .i64 n2) ∧ u.cell? ⟨b', o' + q * 4 + 3, none⟩ = some (.slice a2 l2 c2)))
      clear hu hu' hcl hcl' hus hus'
      go_wp2_with fail
      go_region_held3 (fun u => Ext wr u ∧ u.cell? ⟨P, 3, none⟩ = some (.slice (some ⟨b, o, none⟩) N cc) ∧ u.cell? ⟨P + 1, 3, none⟩ = some (.slice (some ⟨b', o', none⟩) N cc') ∧ u.cell? ⟨b, o + q * 4, none⟩ = some (.int .i64 k1) ∧ u.cell? ⟨b, o + q * 4 + 1, none⟩ = some (.string t1) ∧ u.cell? ⟨b, o + q * 4 + 2, none⟩ = some (.int .i64 n1) ∧ u.cell? ⟨b, o + q * 4 + 3, none⟩ = some (.slice a1 l1 c1) ∧ u.cell? ⟨b', o' + q * 4, none⟩ = some (.int .i64 k2) ∧ u.cell? ⟨b', o' + q * 4 + 1, none⟩ = some (.string t2) ∧ u.cell? ⟨b', o' + q * 4 + 2, none⟩ = some (.int .i64 n2) ∧ u.cell? ⟨b', o' + q * 4 + 3, none⟩ = some (.slice a2 l2 c2))
        (first | exact HKE.out _ (Chg.refl _ _) | exact HKE.out _ ((Chg.refl _ _).drew) | exact HKE.out _ (by assumption))
        ((go_at_call 26; refine (HC.out _ (by first | exact Chg.refl _ _ | exact (Chg.refl _ _).drew)).mono ?_; rintro e w' ⟨rfl, hE2⟩; have hE3 : Ext wr w' := (Chg.refl _ wr).drew.ext hE2))
      rename_i hH
      clear hH
      have HE9 := Lib.hid (HE.out.ext hE3)
      have HK9 := Lib.hid (HK.out.ext hE3)
      have HL9 := Lib.hid (HL.out.ext hE3)
      clear hE2 hE3 HE HK HL hk hl HKE HC p0 p1 p2 p3 r0 r1 r2 r3 k3 l3
      go_wp2_with fail
      go_roundw
      case rel => exact ⟨q + 1, by omega, by go_num, HE9, HK9, HL9⟩
      case measure => simp [intOf]; omega
    · obtain rfl : q = N := by omega
      have hqd : decide ((q : Int) < (q : Int)) = false := by simp
      go_wp2_with fail
      go_ret
      exact ⟨rfl, HE.out⟩
end synr
end Go.Proofs.YtpcihajmcejliabGreatDoor
