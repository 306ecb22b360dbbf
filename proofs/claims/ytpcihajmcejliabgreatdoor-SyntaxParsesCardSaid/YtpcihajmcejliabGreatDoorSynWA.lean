/- The walk of syntax.weigh. How large and how deep a node is, in plain Lean. -/
import Derived.Test.YtpcihajmcejliabGreatDoorSynMC
namespace Go.Proofs.YtpcihajmcejliabGreatDoor
open Go.RowKit
mutual
/-- is a node neither too deep nor of too many? g: how many levels more may be; m: how many nodes there were -/
def weighF : Nat → Nd → Nat → Bool × Nat
  | 0, _, m => (false, m + 1)
  | g + 1, .mk _ _ _ l, m => if 500 < m + 1 then (false, m + 1) else weighL g l (m + 1)
def weighL : Nat → List Nd → Nat → Bool × Nat
  | _, [], m => (true, m)
  | g, x :: r, m => if (weighF g x m).1 = true then weighL g r (weighF g x m).2 else (false, (weighF g x m).2)
end
namespace synw
theorem weigh_le : ∀ g x m, (weighF g x m).2 ≤ max m 500 + 1 ∧ ((weighF g x m).1 = true → (weighF g x m).2 ≤ 500) := by
  intro g
  induction g with
  | zero => intro x m; simp only [weighF]; exact ⟨by omega, fun h => by cases h⟩
  | succ g ih =>
    have hl : ∀ (l : List Nd) (m : Nat), m ≤ 500 → (weighL g l m).2 ≤ 501 ∧ ((weighL g l m).1 = true → (weighL g l m).2 ≤ 500) := by
      intro l
      induction l with
      | nil => intro m hm; simp only [weighL]; exact ⟨by omega, fun _ => hm⟩
      | cons x r ih2 =>
        intro m hm
        obtain ⟨h1, h2⟩ := ih x m
        simp only [weighL]
        split
        · rename_i h; exact ih2 _ (h2 h)
        · exact ⟨by simp only; omega, fun h => by cases h⟩
    intro x m
    cases x with
    | mk k t n l =>
      simp only [weighF]
      split
      · exact ⟨by simp only; omega, fun h => by cases h⟩
      · obtain ⟨h1, h2⟩ := hl l (m + 1) (by omega)
        exact ⟨by omega, h2⟩
theorem weighL_drop {g m k : Nat} {l : List Nd} (h : k < l.length) : weighL g (l.drop k) m = if (weighF g l[k] m).1 = true then weighL g (l.drop (k + 1)) (weighF g l[k] m).2 else (false, (weighF g l[k] m).2) := by
  rw [List.drop_eq_getElem_cons h]; simp only [weighL]
set_option maxRecDepth 100000 in
set_option maxHeartbeats 4000000 in
theorem weigh_any (g : Nat) : ∀ (x : Nd) (v : Value) (w : World) (M m : Nat) (d : Int) (H : Nat → Bool), NdAt (hide H w) x v → H M = true → Blk w M #[.int .i64 (m : Nat)] 3 → m ≤ 500 → d = 17 - (g : Int) → g ≤ 17 →
    Calls Tryz.prog 86 #[v, .int .i64 d, .pointer (some ⟨M, 0, none⟩)] w fun e w' => e = .returned (.bool (weighF g x m).1) ∧ Chg (fun i => i = M) w w' ∧ Blk w' M #[.int .i64 ((weighF g x m).2 : Nat)] 3 := by
  induction g with
  | zero =>
    intro x v w M m d H hx hH hM hm hd hg
    obtain ⟨k, t, n, a, c, cc, rfl⟩ := nd_form hx
    have hM1 := hM.alloc (.cells #[.int .i64 k, .string t, .int .i64 n, .slice a c cc] 66)
    have hc := hM1.cell 0
    have hf := hM1.frozen 0
    have hl := hM1.lt
    simp at hc
    have hw1 : IntKind.i64.wrap ((m : Int) + 1) = ((m + 1 : Nat) : Int) := by rw [wrap_small _ (by omega) (by omega)]; rfl
    have hd2 : d = 17 := by omega
    subst hd2
    have HM := Lib.hid hM1
    have HC := Lib.hid ((Chg.refl (fun i => i = M) w).alloc (.cells #[.int .i64 k, .string t, .int .i64 n, .slice a c cc] 66))
    simp only [weighF]
    clear hM hM1 hx hd hg
    go_enter Tryz.func86, Tryz.ntmps86
    go_wp2_with fail
    go_ret
    exact ⟨rfl, chg_set HC.out 0 _, HM.out.set 0 _⟩
  | succ g ih =>
    intro x v w M m d H hx hH hM hm hd hg
    cases x with
    | mk k t n l =>
      rw [ndAt_mk] at hx
      obtain ⟨a, cc, rfl, hx1, hx2, hx3, hx4⟩ := hx
      obtain ⟨N, hN⟩ : ∃ N, l.length = N := ⟨_, rfl⟩
      have hNm : N ≤ 9223372036854775807 := by unfold maxLen at hx2; omega
      have HN := Lib.hid hN
      rw [hN]
      have hM1 := hM.alloc (.cells #[.int .i64 k, .string t, .int .i64 n, .slice a N cc] 66)
      have hc := hM1.cell 0
      have hf := hM1.frozen 0
      have hlM := hM1.lt
      simp at hc
      obtain ⟨m1, hm1e⟩ : ∃ q, m + 1 = q := ⟨_, rfl⟩
      have hw1 : IntKind.i64.wrap ((m : Int) + 1) = (m1 : Int) := by rw [wrap_small _ (by omega) (by omega)]; omega
      have hdd : ¬ (16 < d) := by omega
      have hdw : IntKind.i64.wrap (d + 1) = 17 - (g : Int) := by rw [wrap_small _ (by omega) (by omega)]; omega
      have hdw2 : wrap64 (d + 1) = 17 - (g : Int) := by unfold wrap64; omega
      have hMw := hM.lt
      have hcm : (w.setCell ⟨M, 0, none⟩ (.int .i64 (m1 : Nat))).cell? ⟨M, 0, none⟩ = some (.int .i64 (m1 : Nat)) := (hM.set 0 (.int .i64 (m1 : Nat))).cell 0
      have hdd2 : decide (16 < d) = false := by simpa using hdd
      clear hd
      obtain ⟨K, hK⟩ : ∃ K, w.heap.size = K := ⟨_, rfl⟩
      rw [hK] at hMw
      obtain ⟨R, hR⟩ : ∃ R, weighF (g + 1) (.mk k t n l) m = R := ⟨_, rfl⟩
      rw [hR]
      simp only [weighF] at hR
      rw [hm1e] at hR
      have HR := Lib.hid hR
      have hM2 := (hM.set 0 (.int .i64 (m1 : Nat))).alloc (.cells #[.int .i64 k, .string t, .int .i64 n, .slice a N cc] 66)
      have hK2 := Blk.made (w.setCell ⟨M, 0, none⟩ (.int .i64 (m1 : Nat))) #[.int .i64 k, .string t, .int .i64 n, .slice a N cc] 66
      rw [World.size_setCell, hK] at hK2
      have hX := (chg_set (Chg.refl (fun i => i = M) w) 0 (.int .i64 (m1 : Nat))).alloc (.cells #[.int .i64 k, .string t, .int .i64 n, .slice a N cc] 66)
      have hK3 := hK2.cell
      have HM2 := Lib.hid hM2
      have HX := Lib.hid hX
      have HI := Lib.hid (fun (u : World) (hC : Chg (fun i => i = M) w u) => hx4.keeps (keeps_chg hC fun i _ e => by rw [e]; exact hH) fun b o y => ndIn_keeps (keeps_chg hC fun i _ e => by rw [e]; exact hH) b o y)
      clear hM hM1 hR hM2 hX hx4 hK2 hN
      by_cases hb : 500 < m1
      · have HR2 := Lib.hid (show R = (false, m1) by have := HR.out; rw [if_pos hb] at this; exact this.symm)
        have hb2 : (500 : Int) < (m1 : Int) := by omega
        clear HR
        go_enter Tryz.func86, Tryz.ntmps86
        go_wp2_with fail
        go_ret
        rw [HR2.out]
        exact ⟨rfl, HX.out, HM2.out⟩
      · have HR2 := Lib.hid (show weighL g l m1 = R by have := HR.out; rw [if_neg hb] at this; exact this)
        have hb2 : ¬ ((500 : Int) < (m1 : Int)) := by omega
        have hm1 : m1 ≤ 500 := by omega
        clear HR hb hm1e
        go_enter Tryz.func86, Tryz.ntmps86
        go_wp2_with fail
        have HI2 := Lib.hid (HI.out _ HX.out)
        clear hc hf hlM hw1 hb2 hK3
        have hX9 := HX.out
        have hM9 := HM2.out
        generalize (w.setCell ⟨M, 0, none⟩ (.int .i64 (m1 : Nat))).alloc (.cells #[.int .i64 k, .string t, .int .i64 n, .slice a N cc] 66) = w1 at *
        go_loopw [25] (fun i wr => ∃ q mm : Nat, q ≤ N ∧ i = .int .i64 q ∧ mm ≤ 500 ∧ Hid (weighL g (l.drop q) mm = R) ∧ Chg (fun i => i = M) w wr ∧ Blk wr M #[.int .i64 (mm : Nat)] 3) (fun i _ => N - (intOf i).toNat)
        case atStart => exact ⟨0, m1, Nat.zero_le _, rfl, hm1, HR2, hX9, hM9⟩
        case round =>
          obtain ⟨q, mm, hq, rfl, hmm, hr, hC, hB⟩ := hrel
          by_cases hlt : q < N
          · have hql : q < l.length := by rw [HN.out]; exact hlt
            have hqi : (q : Int) < (N : Int) := by omega
            obtain ⟨b, o, rfl, hb, u, hu, hus, hcl⟩ := HI.out wr hC q hql
            obtain ⟨k1, t1, n1, a1, l1, c1, rfl⟩ := nd_form hu
            have q0 : wr.cell? ⟨b, o + q * 4, none⟩ = some (.int .i64 k1) := (keeps_bare H wr).2 _ _ ((hcl 0 (by decide)).trans rfl)
            have q1 : wr.cell? ⟨b, o + q * 4 + 1, none⟩ = some (.string t1) := (keeps_bare H wr).2 _ _ ((hcl 1 (by decide)).trans rfl)
            have q2 : wr.cell? ⟨b, o + q * 4 + 2, none⟩ = some (.int .i64 n1) := (keeps_bare H wr).2 _ _ ((hcl 2 (by decide)).trans rfl)
            have q3 : wr.cell? ⟨b, o + q * 4 + 3, none⟩ = some (.slice a1 l1 c1) := (keeps_bare H wr).2 _ _ ((hcl 3 (by decide)).trans rfl)
            have hE := (Chg.refl (fun _ => False) wr).alloc (.cells #[.int .i64 k1, .string t1, .int .i64 n1, .slice a1 l1 c1] 66)
            have HP := Lib.hid ((Blk.made wr #[.int .i64 k1, .string t1, .int .i64 n1, .slice a1 l1 c1] 66))
            have hPc := HP.out.cell
            have HIH := Lib.hid (ih l[q] _ (wr.alloc (.cells #[.int .i64 k1, .string t1, .int .i64 n1, .slice a1 l1 c1] 66)) M mm (17 - (g : Int)) H (ndAt_keeps (keeps_chg hE fun _ _ h => h.elim) _ _ hu) hH (hB.ext hE) hmm rfl (by omega))
            have hr2 := hr.out
            rw [weighL_drop hql] at hr2
            have hle := weigh_le g l[q] mm
            generalize weighF g l[q] mm = Q at *
            obtain ⟨qb, qm⟩ := Q
            simp only at hr2 hle HIH
            have HR3 := Lib.hid hr2
            have HLE := Lib.hid hle
            have HC3 := Lib.hid (hC.ext hE)
            clear hr hr2 hcl hu hE hC hB hle
            go_wp2_with fail
            refine HIH.out.mono ?_
            rintro e w5 ⟨rfl, hC5, hB5⟩
            have HC5 := Lib.hid (HC3.out.then hC5)
            have HB5 := Lib.hid hB5
            clear hC5 hB5
            cases qb with
            | true =>
              have HR4 := Lib.hid (show weighL g (l.drop (q + 1)) qm = R by have := HR3.out; simpa using this)
              have hqm := HLE.out.2 rfl
              clear HR3 HLE
              go_wp2_with fail
              go_roundw
              case rel => exact ⟨q + 1, qm, by omega, by go_num, hqm, HR4, HC5.out, HB5.out⟩
              case measure => simp [intOf]; omega
            | false =>
              have HR4 := Lib.hid (show R = (false, qm) by have := HR3.out; simpa using this.symm)
              clear HR3 HLE
              go_wp2_with fail
              go_ret
              rw [HR4.out]
              exact ⟨rfl, HC5.out, HB5.out⟩
          · obtain rfl : q = N := by omega
            have hT := Lib.hid (show R = (true, mm) by have := hr.out; rw [List.drop_of_length_le (by rw [HN.out]; exact Nat.le_refl _)] at this; simp only [weighL] at this; exact this.symm)
            clear hr
            go_wp2_with fail
            go_ret
            rw [hT.out]
            exact ⟨rfl, hC, hB⟩
end synw
end Go.Proofs.YtpcihajmcejliabGreatDoor
namespace Go.Proofs.YtpcihajmcejliabGreatDoor
open Go.RowKit
mutual
def szF : Nd → Nat
  | .mk _ _ _ l => szL l + 1
def szL : List Nd → Nat
  | [] => 0
  | x :: r => szF x + szL r
end
mutual
def dpF : Nd → Nat
  | .mk _ _ _ l => dpL l + 1
def dpL : List Nd → Nat
  | [] => 0
  | x :: r => max (dpF x) (dpL r)
end
theorem sz_pos (x : Nd) : 1 ≤ szF x := by cases x; simp only [szF]; omega
theorem dp_pos (x : Nd) : 1 ≤ dpF x := by cases x; simp only [dpF]; omega
theorem weigh_law : ∀ g x m, m ≤ 500 → ((weighF g x m).1 = true ↔ dpF x ≤ g ∧ m + szF x ≤ 500) ∧ ((weighF g x m).1 = true → (weighF g x m).2 = m + szF x) := by
  intro g
  induction g with
  | zero =>
    intro x m hm
    have := dp_pos x
    simp only [weighF]
    exact ⟨⟨fun h => (by cases h), fun h => by omega⟩, fun h => by cases h⟩
  | succ g ih =>
    have hl : ∀ (l : List Nd) (m : Nat), m ≤ 500 → ((weighL g l m).1 = true ↔ dpL l ≤ g ∧ m + szL l ≤ 500) ∧ ((weighL g l m).1 = true → (weighL g l m).2 = m + szL l) := by
      intro l
      induction l with
      | nil => intro m hm; simp only [weighL, dpL, szL]; exact ⟨⟨fun _ => ⟨by omega, by omega⟩, fun _ => trivial⟩, fun _ => rfl⟩
      | cons x r ih2 =>
        intro m hm
        obtain ⟨h1, h2⟩ := ih x m hm
        simp only [weighL, dpL, szL]
        by_cases hx : (weighF g x m).1 = true
        · rw [if_pos hx]
          have e := h2 hx
          obtain ⟨h3, h4⟩ := h1.1 hx
          rw [e]
          obtain ⟨h5, h6⟩ := ih2 (m + szF x) h4
          refine ⟨h5.trans ⟨fun h => ⟨by omega, by omega⟩, fun h => ⟨by omega, by omega⟩⟩, fun h => by rw [h6 h]; omega⟩
        · rw [if_neg hx]
          refine ⟨⟨fun h => (by cases h), fun h => absurd (h1.2 ⟨by omega, by omega⟩) hx⟩, fun h => by cases h⟩
    intro x m hm
    cases x with
    | mk k t n l =>
      simp only [weighF, dpF, szF]
      by_cases h : 500 < m + 1
      · rw [if_pos h]
        exact ⟨⟨fun h => (by cases h), fun h => by omega⟩, fun h => by cases h⟩
      · rw [if_neg h]
        obtain ⟨h1, h2⟩ := hl l (m + 1) (by omega)
        exact ⟨h1.trans ⟨fun h => ⟨by omega, by omega⟩, fun h => ⟨by omega, by omega⟩⟩, fun h => by rw [h2 h]; omega⟩
theorem szL_drop {l : List Nd} {k : Nat} (h : k < l.length) : szL (l.drop k) = szF l[k] + szL (l.drop (k + 1)) := by
  rw [List.drop_eq_getElem_cons h]; simp only [szL]
theorem dpL_drop {l : List Nd} {k : Nat} (h : k < l.length) : dpL (l.drop k) = max (dpF l[k]) (dpL (l.drop (k + 1))) := by
  rw [List.drop_eq_getElem_cons h]; simp only [dpL]
end Go.Proofs.YtpcihajmcejliabGreatDoor
