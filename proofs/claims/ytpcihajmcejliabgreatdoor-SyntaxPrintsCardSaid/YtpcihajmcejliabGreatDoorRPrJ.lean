/- The reference's Is: is a node what Parse could answer? -/
import Derived.Deep.RegionHeld3
import Derived.Test.YtpcihajmcejliabGreatDoorRPrI
namespace Go.Proofs.YtpcihajmcejliabGreatDoor
open Go.RowKit
def isH (k : Int) (t : ByteArray) (m : Int) (n : Nat) : Bool :=
 (cntF k).2.2.2.2 && decide ((cntF k).1 ≤ (n : Int)) && (decide ((cntF k).2.1 < 0) || decide ((n : Int) ≤ (cntF k).2.1)) && textsF t (cntF k).2.2.2.1 &&
  (if k = 19 then !decide ((signF m).1 = noText) else decide (0 ≤ m) && decide (m ≤ (cntF k).2.2.1))
mutual
def isF : Nd → Bool
 | .mk k t m l => isH k t m l.length && isL k l.length l 0 0
def isL (k : Int) (N : Nat) : List Nd → Nat → Int → Bool
 | [], _, _ => true
 | x :: r, i, prev => kfF k ((N : Int) - 1) i prev x.kd && isF x && isL k N r (i + 1) x.kd
end
namespace rpr
open synw synr prt
theorem ng_keep {w w' : World} (hE : Ext w w') : Keeps w w' := ⟨hE.size, fun p u hp => by
 rw [hE.cell (World.block_lt_of_cell? w _ hp) id]; exact hp⟩
theorem isL_drop {k : Int} {N : Nat} {l : List Nd} {q : Nat} (h : q < l.length) {prev : Int} : isL k N (l.drop q) q prev = (kfF k ((N : Int) - 1) q prev l[q].kd && isF l[q] && isL k N (l.drop (q + 1)) (q + 1) l[q].kd) := by
 rw [List.drop_eq_getElem_cons h, isL]
set_option maxRecDepth 100000 in
set_option maxHeartbeats 8000000 in
theorem is_any : ∀ (x : Nd) (v : Value) (w : World), NgAt w x v →
  Calls Tryz.prog 96 #[v] w fun e w' => e = .returned (.bool (isF x)) ∧ Ext w w' := by
 refine nd_ind fun k t m l ih v w hx => ?_
 rw [ngAt_mk] at hx; obtain ⟨a, cc, rfl, hx1, hx2, hx3, hx4⟩ := hx; obtain ⟨N, hN⟩ : ∃ N, l.length = N := ⟨_, rfl⟩; have hNm : N ≤ 9223372036854775807 := by unfold maxLen at hx2; omega
 have HN := Z_ hN; have HIH := Z_ ih
 have HI : Hid (∀ (u : World), Ext w u → AllIn 4 NgIn u a l) := by
  intro u hE; exact hx4.keeps (ng_keep hE) fun b o y => ngIn_keeps (ng_keep hE) b o y
 obtain ⟨R, hR⟩ : ∃ R, isF (.mk k t m l) = R := ⟨_, rfl⟩; rw [hR]; rw [isF, hN] at hR; rw [hN]; have HR := Z_ hR; have hE1 := (Chg.refl (fun _ => False) w).alloc (.cells #[.int .i64 k, .string t, .int .i64 m, .slice a N cc] 66); have HK := Z_ (Blk.made w #[.int .i64 k, .string t, .int .i64 m, .slice a N cc] 66); have HE1 := Z_ hE1; obtain ⟨P, hP⟩ : ∃ P, w.heap.size = P := ⟨_, rfl⟩; rw [hP] at HK; have HTX := Z_ (fun (c : Int) (u : World) => texts_any t c u hx3.1); have HCN := Z_ (counts_any k); have HSG := Z_ (signOf_any m); clear hR hx4 hN ih hE1 hx1 hx2; obtain ⟨b1, b2, b3⟩ : ∃ a b c : Nat, True ∧ True := ⟨0, 0, 0, trivial, trivial⟩; clear b1 b2 b3; go_enter Tryz.func96, Tryz.ntmps96
 go_upto_region 1 with (fail)
 try rw [hP]
 generalize w.alloc (.cells #[.int .i64 k, .string t, .int .i64 m, .slice a N cc] 66) = w1 at *; clear hP; have hq1 := HK.out.cell; have HC1 := HCN.out w1; unfold CntC at HC1; unfold isH at HR; generalize cntF k = C at *; obtain ⟨least, most, num, cls, kok⟩ := C; have HC2 := Z_ HC1; clear HC1 HCN; simp only at HC2 HR; go_wp2_with fail
 refine HC2.out.mono ?_
 rintro e w2 ⟨rfl, hE2⟩; have HE2 := Z_ (HE1.out.ext hE2); have HK2 := Z_ (HK.out.ext hE2); clear hq1 HC2 HE1 HK hE2; have hq1 := HK2.out.cell; have no : ∀ (u : World), Ext w u → R = false → (Ending.returned (Value.bool false) = Ending.returned (Value.bool R) ∧ Ext w u) := fun u h1 h2 => ⟨by rw [h2], h1⟩
 have NO := Z_ no; clear no; cases kok with
 | false =>
  go_wp2_with fail
  go_ret
  exact NO.out _ HE2.out (by rw [← HR.out]; rfl)
 | true =>
  by_cases hl : least ≤ (N : Int)
  ·have hld : decide ((N : Int) < least) = false := by simpa using hl
   have hld2 : decide (least ≤ (N : Int)) = true := by simpa using hl
   by_cases hm : most < 0 ∨ (N : Int) ≤ most
   ·have hmo : (decide (0 ≤ most) && decide (most < (N : Int))) = false := by
     rcases hm with h | h
     ·have : decide (0 ≤ most) = false := by simpa using h
      rw [this]; rfl
     ·have : decide (most < (N : Int)) = false := by simpa using h
      rw [this, Bool.and_false]
    have hmd : (decide (most < 0) || decide ((N : Int) ≤ most)) = true := by simpa using hm
    obtain ⟨T, hT⟩ : ∃ T, textsF t cls = T := ⟨_, rfl⟩; have HTC := Z_ (HTX.out cls w2); rw [hT] at HTC HR; rw [hld2, hmd] at HR; clear hT HTX; have hpre : R = (T && (if k = 19 then !decide ((signF m).1 = noText) else decide (0 ≤ m) && decide (m ≤ num)) && isL k N l 0 0) := by rw [← HR.out]; simp [Bool.and_assoc]
    have HPRE := Z_ hpre; clear hpre HR hmd hld2
    have hmsp : (most < 0 ∧ decide (0 ≤ most) = false) ∨ (0 ≤ most ∧ decide (0 ≤ most) = true ∧ decide (most < (N : Int)) = false) := by
     rcases Int.lt_or_le most 0 with h | h
     ·exact .inl ⟨h, by simpa using h⟩
     ·refine .inr ⟨h, by simpa using h, ?_⟩
      rcases hm with h9 | h9
      ·omega
      ·simpa using h9
    clear hm hmo hl; rcases hmsp with ⟨hm0, hm1⟩ | ⟨hm0, hm1, hm2⟩
    ·skip
     go_wp2_with fail
     refine HTC.out.mono ?_
     rintro e w3 ⟨rfl, hE3⟩; have HE4 := Z_ (HE2.out.ext hE3); have HK4 := Z_ (HK2.out.ext hE3); clear hq1 HTC hE3; have hq1 := HK4.out.cell; cases T with
     | false =>
      go_wp2_with fail
      go_ret
      exact NO.out _ HE4.out (by rw [HPRE.out]; rfl)
     | true =>
     obtain ⟨w4, hw4e⟩ : ∃ u, u = w3 := ⟨_, rfl⟩; clear hw4e w4; by_cases h19 : k = 19
     ·have h19t : (k == 19) = true := by simpa using h19
      have hemp := empty_eq (signF m).1; have hpre := HPRE.out; rw [if_pos h19] at hpre; obtain ⟨Z, hZ⟩ : ∃ Z, signF m = Z := ⟨_, rfl⟩; rw [hZ] at hemp hpre HSG; obtain ⟨z1, z2⟩ := Z; simp only at hemp hpre HSG; obtain ⟨E, hEE⟩ : ∃ E, decide (z1 = noText) = E := ⟨_, rfl⟩; rw [hEE] at hemp hpre; have HL0 := Z_ hpre; clear hpre HPRE hZ hEE; go_wp2_with fail
      refine (HSG.out w3).mono ?_
      rintro e w5 ⟨rfl, hE5⟩; have HE5 := Z_ (HE4.out.ext hE5); have HK5 := Z_ (HK4.out.ext hE5); have HK4x := HK5; clear hq1 hE5; have hq1 := HK5.out.cell; cases E with
      | true =>
       go_wp2_with fail
       go_ret
       exact NO.out _ HE5.out (by rw [HL0.out]; rfl)
      | false =>
      have HL := Z_ (show R = isL k N l 0 0 by rw [HL0.out]; rfl); go_upto_region 10 with (fail)
      clear HL0 h19 h19t hemp; go_wp2_with fail
      clear hq1 HK4x; go_loopw [10] (fun i wr => ∃ (q : Nat) (prev : Int), q ≤ N ∧ i = .int .i64 q ∧ Hid (∀ h : q - 1 < l.length, 0 < q → prev = l[q - 1].kd) ∧ Hid (isL k N (l.drop q) q prev = R) ∧ Hid (Ext w wr) ∧ Hid (Blk wr P #[.int .i64 k, .string t, .int .i64 m, .slice a N cc] 66)) (fun i _ => N - (intOf i).toNat)
      case atStart => exact ⟨0, 0, Nat.zero_le _, rfl, fun _ h => absurd h (by decide), HL.out.symm, HE5, HK5⟩
      clear HE5 HK5
      case round =>
       obtain ⟨q, prev, hq, rfl, hpv, hr, HE, HK⟩ := hrel; have hc := HK.out.cell; by_cases hlt : q < N
       ·have hql : q < l.length := by rw [HN.out]; exact hlt
        have hqi : (q : Int) < (N : Int) := by omega
        have hqd : decide ((q : Int) < (N : Int)) = true := by simpa using hqi
        obtain ⟨b, o, rfl, hb, u, hu, hus, hcl⟩ := HI.out wr HE.out q hql; obtain ⟨k1, t1, n1, a1, l1, c1, rfl⟩ := ng_form hu
        have hkd : l[q].kd = k1 := by
         have h9 := hu; generalize l[q] = z at h9 ⊢; obtain ⟨kz, tz, mz, lz⟩ := z; rw [ngAt_mk] at h9; obtain ⟨az, cz, e, -⟩ := h9; injection e with e
         injection e with e
         injection e with e _
         injection e with _ e
         exact e.symm
        have q0 : wr.cell? ⟨b, o + q * 4, none⟩ = some (.int .i64 k1) := (hcl 0 (by decide)).trans rfl; have q1 : wr.cell? ⟨b, o + q * 4 + 1, none⟩ = some (.string t1) := (hcl 1 (by decide)).trans rfl; have q2 : wr.cell? ⟨b, o + q * 4 + 2, none⟩ = some (.int .i64 n1) := (hcl 2 (by decide)).trans rfl; have q3 : wr.cell? ⟨b, o + q * 4 + 3, none⟩ = some (.slice a1 l1 c1) := (hcl 3 (by decide)).trans rfl
        have HPV : Hid (0 < q → ∃ b' o', (some ⟨b, o, none⟩ : Option Addr) = some ⟨b', o', none⟩ ∧ wr.cell? ⟨b', o' + (q - 1) * 4, none⟩ = some (.int .i64 prev)) := by
         intro h0; have hql1 : q - 1 < l.length := by omega
         obtain ⟨b', o', e, hb', u', hu', hus', hcl'⟩ := HI.out wr HE.out (q - 1) hql1; refine ⟨b', o', e, (hcl' 0 (by decide)).trans ?_⟩
         have hp9 := hpv.out hql1 h0; generalize l[q - 1] = z at hu' hp9; obtain ⟨kz, tz, mz, lz⟩ := z; rw [ngAt_mk] at hu'; obtain ⟨az, cz, rfl, -⟩ := hu'; rw [hp9]; rfl
        have HS : Hid (∀ u, Ext wr u → (fun u => Ext wr u ∧ (∀ i, u.cell? ⟨P, i, none⟩ = #[.int .i64 k, .string t, .int .i64 m, .slice (some ⟨b, o, none⟩) N cc][i]?) ∧ u.cell? ⟨b, o + q * 4, none⟩ = some (.int .i64 k1) ∧ u.cell? ⟨b, o + q * 4 + 1, none⟩ = some (.string t1) ∧ u.cell? ⟨b, o + q * 4 + 2, none⟩ = some (.int .i64 n1) ∧ u.cell? ⟨b, o + q * 4 + 3, none⟩ = some (.slice a1 l1 c1)) u) := by
         intro u hE; have hPl := HK.out.lt; exact ⟨hE, fun i => (hE.cell (p := ⟨P, i, none⟩) hPl id).trans (hc i), (hE.cell (p := ⟨b, o + q * 4, none⟩) hb id).trans q0, (hE.cell (p := ⟨b, o + q * 4 + 1, none⟩) hb id).trans q1, (hE.cell (p := ⟨b, o + q * 4 + 2, none⟩) hb id).trans q2, (hE.cell (p := ⟨b, o + q * 4 + 3, none⟩) hb id).trans q3⟩
        have HKC : Hid (∀ u, Ext wr u → Calls Tryz.prog 176 #[.agg #[.int .i64 k, .string t, .int .i64 m, .slice (some ⟨b, o, none⟩) N cc], .int .i64 (q : Nat), .int .i64 k1] u fun e w' => e = .returned (.bool (kfF k ((N : Int) - 1) q prev k1)) ∧ Ext u w') := by
         intro u hE; refine kinds_any k m t _ N cc q k1 prev u hNm hlt fun h0 => ?_
         obtain ⟨b', o', e, hx⟩ := HPV.out h0; exact ⟨b', o', e, (hE.cell (p := ⟨b', o' + (q - 1) * 4, none⟩) (World.block_lt_of_cell? wr _ hx) id).trans hx⟩
        have HIC := Z_ (fun (u : World) (hE : Ext wr u) => HIH.out l[q] (List.getElem_mem hql) _ u (ngAt_keeps (ng_keep hE) _ _ hu)); have hr2 := hr.out; rw [isL_drop hql, hkd] at hr2; obtain ⟨K, hK⟩ : ∃ K, kfF k ((N : Int) - 1) q prev k1 = K := ⟨_, rfl⟩; obtain ⟨I, hI⟩ : ∃ I, isF l[q] = I := ⟨_, rfl⟩; rw [hK, hI] at hr2; rw [hK] at HKC; rw [hI] at HIC; have HR3 := Z_ hr2; have HKD := Z_ hkd; clear hr hr2 hcl hu hK hI hkd HPV hpv hus; cases K with
        | false =>
         go_wp2_with fail
         clear q0 q1 q2 q3 hc; refine wp_region_held_drew (S := (fun u => Ext wr u ∧ (∀ i, u.cell? ⟨P, i, none⟩ = #[.int .i64 k, .string t, .int .i64 m, .slice (some ⟨b, o, none⟩) N cc][i]?) ∧ u.cell? ⟨b, o + q * 4, none⟩ = some (.int .i64 k1) ∧ u.cell? ⟨b, o + q * 4 + 1, none⟩ = some (.string t1) ∧ u.cell? ⟨b, o + q * 4 + 2, none⟩ = some (.int .i64 n1) ∧ u.cell? ⟨b, o + q * 4 + 3, none⟩ = some (.slice a1 l1 c1))) (by kernel_rfl) (HS.out _ (Chg.refl _ _).drew) (fun hHeld => ?_)
         refine wpAnyH_take (i := 0) (v := ?vzap0) rfl (by kernel_rfl) (by kernel_rfl) (by kernel_rfl) (fun _ _ _ h => h) (Or.inl ⟨by rfl, ?hzap0⟩) (by assumption) ?rzap0
         case hzap0 => intro w hSw; (try dsimp only at hSw); go_simp; (try with_reducible rfl)
         simp only [Act.put, List.getElem_toArray, List.getElem_cons_zero, List.setIfInBounds_toArray, List.set_cons_zero, List.set_cons_succ]; refine wpAnyH_take (i := 1) (v := ?vzap1) rfl (by kernel_rfl) (by kernel_rfl) (by kernel_rfl) (fun _ _ _ h => h) (Or.inl ⟨by rfl, ?hzap1⟩) (by assumption) ?rzap1
         case hzap1 => intro w hSw; (try dsimp only at hSw); go_simp; (try with_reducible rfl)
         simp only [Act.put, List.getElem_toArray, List.getElem_cons_zero, List.getElem_cons_succ, List.setIfInBounds_toArray, List.set_cons_zero, List.set_cons_succ]; refine wpAnyH_take (i := 2) (v := ?vzap2) rfl (by kernel_rfl) (by kernel_rfl) (by kernel_rfl) (fun _ _ _ h => h) (Or.inl ⟨by rfl, ?hzap2⟩) (by assumption) ?rzap2
         case hzap2 => intro w hSw; (try dsimp only at hSw); go_simp; (try with_reducible rfl)
         simp only [Act.put, List.getElem_toArray, List.getElem_cons_zero, List.getElem_cons_succ, List.setIfInBounds_toArray, List.set_cons_zero, List.set_cons_succ]; refine wpAnyH_take (i := 3) (v := ?vzap3) rfl (by kernel_rfl) (by kernel_rfl) (by kernel_rfl) (fun _ _ _ h => h) (Or.inl ⟨by rfl, ?hzap3⟩) (by assumption) ?rzap3
         case hzap3 => intro w hSw; (try dsimp only at hSw); go_simp; (try with_reducible rfl)
         simp only [Act.put, List.getElem_toArray, List.getElem_cons_zero, List.getElem_cons_succ, List.setIfInBounds_toArray, List.set_cons_zero, List.set_cons_succ]; refine wpAnyH_take (i := 4) (v := ?vzap4) rfl (by kernel_rfl) (by kernel_rfl) (by kernel_rfl) (fun _ _ _ h => h) (Or.inl ⟨by rfl, ?hzap4⟩) (by assumption) ?rzap4
         case hzap4 => intro w hSw; (try dsimp only at hSw); go_simp; (try with_reducible rfl)
         simp only [Act.put, List.getElem_toArray, List.getElem_cons_zero, List.getElem_cons_succ, List.setIfInBounds_toArray, List.set_cons_zero, List.set_cons_succ]; refine wpAnyH_take (i := 5) (v := ?vzap5) rfl (by kernel_rfl) (by kernel_rfl) (by kernel_rfl) (fun _ _ _ h => h) (Or.inl ⟨by rfl, ?hzap5⟩) (by assumption) ?rzap5
         case hzap5 => intro w hSw; (try dsimp only at hSw); go_simp; (try with_reducible rfl)
         simp only [Act.put, List.getElem_toArray, List.getElem_cons_zero, List.getElem_cons_succ, List.setIfInBounds_toArray, List.set_cons_zero, List.set_cons_succ]; refine wpAnyH_take (i := 6) (v := ?vzap6) rfl (by kernel_rfl) (by kernel_rfl) (by kernel_rfl) (fun _ _ _ h => h) (Or.inl ⟨by rfl, ?hzap6⟩) (by assumption) ?rzap6
         case hzap6 => intro w hSw; (try dsimp only at hSw); go_simp; (try with_reducible rfl)
         simp only [Act.put, List.getElem_toArray, List.getElem_cons_zero, List.getElem_cons_succ, List.setIfInBounds_toArray, List.set_cons_zero, List.set_cons_succ]; refine wpAnyH_take (i := 7) (v := ?vzap7) rfl (by kernel_rfl) (by kernel_rfl) (by kernel_rfl) (fun _ _ _ h => h) (Or.inl ⟨by rfl, ?hzap7⟩) (by assumption) ?rzap7
         case hzap7 => intro w hSw; (try dsimp only at hSw); go_simp; (try with_reducible rfl)
         simp only [Act.put, List.getElem_toArray, List.getElem_cons_zero, List.getElem_cons_succ, List.setIfInBounds_toArray, List.set_cons_zero, List.set_cons_succ]; refine wpAnyH_ready (rs := [8]) (by kernel_rfl) (by simp) ?_
         refine AllReadyH.cons rfl (fun K2 hK2 => ?_) AllReadyH.nil
         go_simp; refine (HKC.out _ (Chg.refl _ _).drew).mono ?_
         rintro e w' ⟨rfl, hE'⟩; have hEw : Ext wr w' := ((Chg.refl _ wr).drew).ext hE'; refine hK2.out _ _ (HS.out _ hEw) (fun hHeld2 => ?_)
         clear hK2 K2 hHeld hE'
         try simp only [Act.put, List.getElem_toArray, List.getElem_cons_zero, List.getElem_cons_succ, List.setIfInBounds_toArray, List.set_cons_zero, List.set_cons_succ]
         refine wpAnyH_take (i := 9) (v := ?vzap9) rfl (by kernel_rfl) (by kernel_rfl) (by kernel_rfl) (fun _ _ _ h => h) (Or.inl ⟨by rfl, ?hzap9⟩) (by assumption) ?rzap9
         case hzap9 => intro w hSw; (try dsimp only at hSw); go_simp; (try with_reducible rfl)
         simp only [Act.put, List.getElem_toArray, List.getElem_cons_zero, List.getElem_cons_succ, List.setIfInBounds_toArray, List.set_cons_zero, List.set_cons_succ]; refine wpAnyH_take (i := 10) (v := ?vzap10) rfl (by kernel_rfl) (by kernel_rfl) (by kernel_rfl) (fun _ _ _ h => h) (Or.inl ⟨by rfl, ?hzap10⟩) (by assumption) ?rzap10
         case hzap10 => intro w hSw; (try dsimp only at hSw); go_simp; (try with_reducible rfl)
         simp only [Act.put, List.getElem_toArray, List.getElem_cons_zero, List.getElem_cons_succ, List.setIfInBounds_toArray, List.set_cons_zero, List.set_cons_succ]; refine wpAnyH_take (i := 11) (v := undef) rfl (by kernel_rfl) (by kernel_rfl) (by kernel_rfl) (fun _ _ _ h => h) (Or.inr ⟨by rfl, rfl⟩) (by assumption) ?_
         simp only [Act.put, List.getElem_toArray, List.getElem_cons_zero, List.getElem_cons_succ, List.setIfInBounds_toArray, List.set_cons_zero, List.set_cons_succ]; refine wpAnyH_take (i := 12) (v := undef) rfl (by kernel_rfl) (by kernel_rfl) (by kernel_rfl) (fun _ _ _ h => h) (Or.inr ⟨by rfl, rfl⟩) (by assumption) ?_
         simp only [Act.put, List.getElem_toArray, List.getElem_cons_zero, List.getElem_cons_succ, List.setIfInBounds_toArray, List.set_cons_zero, List.set_cons_succ]; refine wpAnyH_take (i := 13) (v := undef) rfl (by kernel_rfl) (by kernel_rfl) (by kernel_rfl) (fun _ _ _ h => h) (Or.inr ⟨by rfl, rfl⟩) (by assumption) ?_
         simp only [Act.put, List.getElem_toArray, List.getElem_cons_zero, List.getElem_cons_succ, List.setIfInBounds_toArray, List.set_cons_zero, List.set_cons_succ]; refine wpAnyH_take (i := 14) (v := undef) rfl (by kernel_rfl) (by kernel_rfl) (by kernel_rfl) (fun _ _ _ h => h) (Or.inr ⟨by rfl, rfl⟩) (by assumption) ?_
         simp only [Act.put, List.getElem_toArray, List.getElem_cons_zero, List.getElem_cons_succ, List.setIfInBounds_toArray, List.set_cons_zero, List.set_cons_succ]; refine wpAnyH_take (i := 15) (v := undef) rfl (by kernel_rfl) (by kernel_rfl) (by kernel_rfl) (fun _ _ _ h => h) (Or.inr ⟨by rfl, rfl⟩) (by assumption) ?_
         simp only [Act.put, List.getElem_toArray, List.getElem_cons_zero, List.getElem_cons_succ, List.setIfInBounds_toArray, List.set_cons_zero, List.set_cons_succ]; refine wpAnyH_take (i := 16) (v := undef) rfl (by kernel_rfl) (by kernel_rfl) (by kernel_rfl) (fun _ _ _ h => h) (Or.inr ⟨by rfl, rfl⟩) (by assumption) ?_
         simp only [Act.put, List.getElem_toArray, List.getElem_cons_zero, List.getElem_cons_succ, List.setIfInBounds_toArray, List.set_cons_zero, List.set_cons_succ]; refine wpAnyH_take (i := 17) (v := undef) rfl (by kernel_rfl) (by kernel_rfl) (by kernel_rfl) (fun _ _ _ h => h) (Or.inr ⟨by rfl, rfl⟩) (by assumption) ?_
         simp only [Act.put, List.getElem_toArray, List.getElem_cons_zero, List.getElem_cons_succ, List.setIfInBounds_toArray, List.set_cons_zero, List.set_cons_succ]; refine wpAnyH_take (i := 18) (v := ?vzap18) rfl (by kernel_rfl) (by kernel_rfl) (by kernel_rfl) (fun _ _ _ h => h) (Or.inl ⟨by rfl, ?hzap18⟩) (by assumption) ?rzap18
         case hzap18 => intro w hSw; (try dsimp only at hSw); go_simp; (try with_reducible rfl)
         simp only [Act.put, List.getElem_toArray, List.getElem_cons_zero, List.getElem_cons_succ, List.setIfInBounds_toArray, List.set_cons_zero, List.set_cons_succ]; refine wpAnyH_done (by kernel_rfl) ?_ _
         have hEnd := hHeld2.1; clear hHeld2; go_wp2_with fail
         go_ret
         exact NO.out _ (HE.out.ext hEw) (by rw [← HR3.out]; rfl)
        | true =>
         go_wp2_with fail
         clear q0 q1 q2 q3 hc; refine wp_region_held_drew (S := (fun u => Ext wr u ∧ (∀ i, u.cell? ⟨P, i, none⟩ = #[.int .i64 k, .string t, .int .i64 m, .slice (some ⟨b, o, none⟩) N cc][i]?) ∧ u.cell? ⟨b, o + q * 4, none⟩ = some (.int .i64 k1) ∧ u.cell? ⟨b, o + q * 4 + 1, none⟩ = some (.string t1) ∧ u.cell? ⟨b, o + q * 4 + 2, none⟩ = some (.int .i64 n1) ∧ u.cell? ⟨b, o + q * 4 + 3, none⟩ = some (.slice a1 l1 c1))) (by kernel_rfl) (HS.out _ (Chg.refl _ _).drew) (fun hHeld => ?_)
         refine wpAnyH_take (i := 0) (v := ?vyap0) rfl (by kernel_rfl) (by kernel_rfl) (by kernel_rfl) (fun _ _ _ h => h) (Or.inl ⟨by rfl, ?hyap0⟩) (by assumption) ?ryap0
         case hyap0 => intro w hSw; (try dsimp only at hSw); go_simp; (try with_reducible rfl)
         simp only [Act.put, List.getElem_toArray, List.getElem_cons_zero, List.setIfInBounds_toArray, List.set_cons_zero, List.set_cons_succ]; refine wpAnyH_take (i := 1) (v := ?vyap1) rfl (by kernel_rfl) (by kernel_rfl) (by kernel_rfl) (fun _ _ _ h => h) (Or.inl ⟨by rfl, ?hyap1⟩) (by assumption) ?ryap1
         case hyap1 => intro w hSw; (try dsimp only at hSw); go_simp; (try with_reducible rfl)
         simp only [Act.put, List.getElem_toArray, List.getElem_cons_zero, List.getElem_cons_succ, List.setIfInBounds_toArray, List.set_cons_zero, List.set_cons_succ]; refine wpAnyH_take (i := 2) (v := ?vyap2) rfl (by kernel_rfl) (by kernel_rfl) (by kernel_rfl) (fun _ _ _ h => h) (Or.inl ⟨by rfl, ?hyap2⟩) (by assumption) ?ryap2
         case hyap2 => intro w hSw; (try dsimp only at hSw); go_simp; (try with_reducible rfl)
         simp only [Act.put, List.getElem_toArray, List.getElem_cons_zero, List.getElem_cons_succ, List.setIfInBounds_toArray, List.set_cons_zero, List.set_cons_succ]; refine wpAnyH_take (i := 3) (v := ?vyap3) rfl (by kernel_rfl) (by kernel_rfl) (by kernel_rfl) (fun _ _ _ h => h) (Or.inl ⟨by rfl, ?hyap3⟩) (by assumption) ?ryap3
         case hyap3 => intro w hSw; (try dsimp only at hSw); go_simp; (try with_reducible rfl)
         simp only [Act.put, List.getElem_toArray, List.getElem_cons_zero, List.getElem_cons_succ, List.setIfInBounds_toArray, List.set_cons_zero, List.set_cons_succ]; refine wpAnyH_take (i := 4) (v := ?vyap4) rfl (by kernel_rfl) (by kernel_rfl) (by kernel_rfl) (fun _ _ _ h => h) (Or.inl ⟨by rfl, ?hyap4⟩) (by assumption) ?ryap4
         case hyap4 => intro w hSw; (try dsimp only at hSw); go_simp; (try with_reducible rfl)
         simp only [Act.put, List.getElem_toArray, List.getElem_cons_zero, List.getElem_cons_succ, List.setIfInBounds_toArray, List.set_cons_zero, List.set_cons_succ]; refine wpAnyH_take (i := 5) (v := ?vyap5) rfl (by kernel_rfl) (by kernel_rfl) (by kernel_rfl) (fun _ _ _ h => h) (Or.inl ⟨by rfl, ?hyap5⟩) (by assumption) ?ryap5
         case hyap5 => intro w hSw; (try dsimp only at hSw); go_simp; (try with_reducible rfl)
         simp only [Act.put, List.getElem_toArray, List.getElem_cons_zero, List.getElem_cons_succ, List.setIfInBounds_toArray, List.set_cons_zero, List.set_cons_succ]; refine wpAnyH_take (i := 6) (v := ?vyap6) rfl (by kernel_rfl) (by kernel_rfl) (by kernel_rfl) (fun _ _ _ h => h) (Or.inl ⟨by rfl, ?hyap6⟩) (by assumption) ?ryap6
         case hyap6 => intro w hSw; (try dsimp only at hSw); go_simp; (try with_reducible rfl)
         simp only [Act.put, List.getElem_toArray, List.getElem_cons_zero, List.getElem_cons_succ, List.setIfInBounds_toArray, List.set_cons_zero, List.set_cons_succ]; refine wpAnyH_take (i := 7) (v := ?vyap7) rfl (by kernel_rfl) (by kernel_rfl) (by kernel_rfl) (fun _ _ _ h => h) (Or.inl ⟨by rfl, ?hyap7⟩) (by assumption) ?ryap7
         case hyap7 => intro w hSw; (try dsimp only at hSw); go_simp; (try with_reducible rfl)
         simp only [Act.put, List.getElem_toArray, List.getElem_cons_zero, List.getElem_cons_succ, List.setIfInBounds_toArray, List.set_cons_zero, List.set_cons_succ]; refine wpAnyH_ready (rs := [8]) (by kernel_rfl) (by simp) ?_
         refine AllReadyH.cons rfl (fun K2 hK2 => ?_) AllReadyH.nil
         go_simp; refine (HKC.out _ (Chg.refl _ _).drew).mono ?_
         rintro e w' ⟨rfl, hE'⟩; have hE3 : Ext wr w' := ((Chg.refl _ wr).drew).ext hE'; refine hK2.out _ _ (HS.out _ hE3) (fun hHeld2 => ?_)
         clear hK2 K2 hHeld hE'
         try simp only [Act.put, List.getElem_toArray, List.getElem_cons_zero, List.getElem_cons_succ, List.setIfInBounds_toArray, List.set_cons_zero, List.set_cons_succ]
         refine wpAnyH_take (i := 9) (v := ?vyap9) rfl (by kernel_rfl) (by kernel_rfl) (by kernel_rfl) (fun _ _ _ h => h) (Or.inl ⟨by rfl, ?hyap9⟩) (by assumption) ?ryap9
         case hyap9 => intro w hSw; (try dsimp only at hSw); go_simp; (try with_reducible rfl)
         simp only [Act.put, List.getElem_toArray, List.getElem_cons_zero, List.getElem_cons_succ, List.setIfInBounds_toArray, List.set_cons_zero, List.set_cons_succ]; refine wpAnyH_take (i := 10) (v := ?vyap10) rfl (by kernel_rfl) (by kernel_rfl) (by kernel_rfl) (fun _ _ _ h => h) (Or.inl ⟨by rfl, ?hyap10⟩) (by assumption) ?ryap10
         case hyap10 => intro w hSw; (try dsimp only at hSw); go_simp; (try with_reducible rfl)
         simp only [Act.put, List.getElem_toArray, List.getElem_cons_zero, List.getElem_cons_succ, List.setIfInBounds_toArray, List.set_cons_zero, List.set_cons_succ]; refine wpAnyH_take (i := 11) (v := ?vyap11) rfl (by kernel_rfl) (by kernel_rfl) (by kernel_rfl) (fun _ _ _ h => h) (Or.inl ⟨by rfl, ?hyap11⟩) (by assumption) ?ryap11
         case hyap11 => intro w hSw; (try dsimp only at hSw); go_simp; (try with_reducible rfl)
         simp only [Act.put, List.getElem_toArray, List.getElem_cons_zero, List.getElem_cons_succ, List.setIfInBounds_toArray, List.set_cons_zero, List.set_cons_succ]; refine wpAnyH_take (i := 12) (v := ?vyap12) rfl (by kernel_rfl) (by kernel_rfl) (by kernel_rfl) (fun _ _ _ h => h) (Or.inl ⟨by rfl, ?hyap12⟩) (by assumption) ?ryap12
         case hyap12 => intro w hSw; (try dsimp only at hSw); go_simp; (try with_reducible rfl)
         simp only [Act.put, List.getElem_toArray, List.getElem_cons_zero, List.getElem_cons_succ, List.setIfInBounds_toArray, List.set_cons_zero, List.set_cons_succ]; refine wpAnyH_take (i := 13) (v := ?vyap13) rfl (by kernel_rfl) (by kernel_rfl) (by kernel_rfl) (fun _ _ _ h => h) (Or.inl ⟨by rfl, ?hyap13⟩) (by assumption) ?ryap13
         case hyap13 => intro w hSw; (try dsimp only at hSw); go_simp; (try with_reducible rfl)
         simp only [Act.put, List.getElem_toArray, List.getElem_cons_zero, List.getElem_cons_succ, List.setIfInBounds_toArray, List.set_cons_zero, List.set_cons_succ]; refine wpAnyH_take (i := 14) (v := ?vyap14) rfl (by kernel_rfl) (by kernel_rfl) (by kernel_rfl) (fun _ _ _ h => h) (Or.inl ⟨by rfl, ?hyap14⟩) (by assumption) ?ryap14
         case hyap14 => intro w hSw; (try dsimp only at hSw); go_simp; (try with_reducible rfl)
         simp only [Act.put, List.getElem_toArray, List.getElem_cons_zero, List.getElem_cons_succ, List.setIfInBounds_toArray, List.set_cons_zero, List.set_cons_succ]; refine wpAnyH_take (i := 15) (v := ?vyap15) rfl (by kernel_rfl) (by kernel_rfl) (by kernel_rfl) (fun _ _ _ h => h) (Or.inl ⟨by rfl, ?hyap15⟩) (by assumption) ?ryap15
         case hyap15 => intro w hSw; (try dsimp only at hSw); go_simp; (try with_reducible rfl)
         simp only [Act.put, List.getElem_toArray, List.getElem_cons_zero, List.getElem_cons_succ, List.setIfInBounds_toArray, List.set_cons_zero, List.set_cons_succ]; refine wpAnyH_ready (rs := [16]) (by kernel_rfl) (by simp) ?_
         refine AllReadyH.cons rfl (fun K3 hK3 => ?_) AllReadyH.nil
         go_simp; refine (HIC.out _ hE3).mono ?_
         rintro e w'' ⟨rfl, hE4⟩; have hE5 : Ext wr w'' := hE3.ext hE4; refine hK3.out _ _ (HS.out _ hE5) (fun hHeld3 => ?_)
         clear hK3 K3 hHeld2 hE4
         try simp only [Act.put, List.getElem_toArray, List.getElem_cons_zero, List.getElem_cons_succ, List.setIfInBounds_toArray, List.set_cons_zero, List.set_cons_succ]
         refine wpAnyH_take (i := 17) (v := ?vyap17) rfl (by kernel_rfl) (by kernel_rfl) (by kernel_rfl) (fun _ _ _ h => h) (Or.inl ⟨by rfl, ?hyap17⟩) (by assumption) ?ryap17
         case hyap17 => intro w hSw; (try dsimp only at hSw); go_simp; (try with_reducible rfl)
         simp only [Act.put, List.getElem_toArray, List.getElem_cons_zero, List.getElem_cons_succ, List.setIfInBounds_toArray, List.set_cons_zero, List.set_cons_succ]; refine wpAnyH_take (i := 18) (v := ?vyap18) rfl (by kernel_rfl) (by kernel_rfl) (by kernel_rfl) (fun _ _ _ h => h) (Or.inl ⟨by rfl, ?hyap18⟩) (by assumption) ?ryap18
         case hyap18 => intro w hSw; (try dsimp only at hSw); go_simp; (try with_reducible rfl)
         simp only [Act.put, List.getElem_toArray, List.getElem_cons_zero, List.getElem_cons_succ, List.setIfInBounds_toArray, List.set_cons_zero, List.set_cons_succ]; refine wpAnyH_done (by kernel_rfl) ?_ _
         clear hHeld3; have HE9 := Z_ (HE.out.ext hE5); have HK9 := Z_ (HK.out.ext hE5); clear hE3 hE5 HE HK HS HKC HIC; cases I with
         | true =>
          go_wp2_with fail
          go_roundw
          case rel => exact ⟨q + 1, k1, by omega, by go_num, fun h _ => by rw [← HKD.out]; simp, Z_ (by have := HR3.out; simpa using this), HE9, HK9⟩
          case measure => simp [intOf]; omega
         | false =>
          go_wp2_with fail
          go_ret
          exact NO.out _ HE9.out (by rw [← HR3.out]; rfl)
       ·obtain rfl : q = N := by omega
        have hqd : decide ((q : Int) < (q : Int)) = false := by simp
        have hT : R = true := by have := hr.out; rw [List.drop_of_length_le (by rw [HN.out]; exact Nat.le_refl _), isL] at this; exact this.symm
        subst hT; clear hr hpv; go_wp2_with fail
        go_ret
        exact ⟨rfl, HE.out⟩

     ·have h19f : (k == 19) = false := by simpa using h19
      have hpre := HPRE.out; rw [if_neg h19] at hpre; have HE5 := HE4; have HK5 := HK4; have HK4x := HK4; by_cases hmm0 : 0 ≤ m
      ·have hmd0 : decide (m < 0) = false := by simpa using hmm0
       by_cases hmn : m ≤ num
       ·have hmd1 : decide (num < m) = false := by simpa using hmn
        have HL := Z_ (show R = isL k N l 0 0 by rw [hpre]; simp [hmm0, hmn]); clear hpre HPRE; go_wp2_with fail
        clear hq1 HK4x; go_loopw [10] (fun i wr => ∃ (q : Nat) (prev : Int), q ≤ N ∧ i = .int .i64 q ∧ Hid (∀ h : q - 1 < l.length, 0 < q → prev = l[q - 1].kd) ∧ Hid (isL k N (l.drop q) q prev = R) ∧ Hid (Ext w wr) ∧ Hid (Blk wr P #[.int .i64 k, .string t, .int .i64 m, .slice a N cc] 66)) (fun i _ => N - (intOf i).toNat)
        case atStart => exact ⟨0, 0, Nat.zero_le _, rfl, fun _ h => absurd h (by decide), HL.out.symm, HE5, HK5⟩
        clear HE5 HK5
        case round =>
         obtain ⟨q, prev, hq, rfl, hpv, hr, HE, HK⟩ := hrel; have hc := HK.out.cell; by_cases hlt : q < N
         ·have hql : q < l.length := by rw [HN.out]; exact hlt
          have hqi : (q : Int) < (N : Int) := by omega
          have hqd : decide ((q : Int) < (N : Int)) = true := by simpa using hqi
          obtain ⟨b, o, rfl, hb, u, hu, hus, hcl⟩ := HI.out wr HE.out q hql; obtain ⟨k1, t1, n1, a1, l1, c1, rfl⟩ := ng_form hu
          have hkd : l[q].kd = k1 := by
           have h9 := hu; generalize l[q] = z at h9 ⊢; obtain ⟨kz, tz, mz, lz⟩ := z; rw [ngAt_mk] at h9; obtain ⟨az, cz, e, -⟩ := h9; injection e with e
           injection e with e
           injection e with e _
           injection e with _ e
           exact e.symm
          have q0 : wr.cell? ⟨b, o + q * 4, none⟩ = some (.int .i64 k1) := (hcl 0 (by decide)).trans rfl; have q1 : wr.cell? ⟨b, o + q * 4 + 1, none⟩ = some (.string t1) := (hcl 1 (by decide)).trans rfl; have q2 : wr.cell? ⟨b, o + q * 4 + 2, none⟩ = some (.int .i64 n1) := (hcl 2 (by decide)).trans rfl; have q3 : wr.cell? ⟨b, o + q * 4 + 3, none⟩ = some (.slice a1 l1 c1) := (hcl 3 (by decide)).trans rfl
          have HPV : Hid (0 < q → ∃ b' o', (some ⟨b, o, none⟩ : Option Addr) = some ⟨b', o', none⟩ ∧ wr.cell? ⟨b', o' + (q - 1) * 4, none⟩ = some (.int .i64 prev)) := by
           intro h0; have hql1 : q - 1 < l.length := by omega
           obtain ⟨b', o', e, hb', u', hu', hus', hcl'⟩ := HI.out wr HE.out (q - 1) hql1; refine ⟨b', o', e, (hcl' 0 (by decide)).trans ?_⟩
           have hp9 := hpv.out hql1 h0; generalize l[q - 1] = z at hu' hp9; obtain ⟨kz, tz, mz, lz⟩ := z; rw [ngAt_mk] at hu'; obtain ⟨az, cz, rfl, -⟩ := hu'; rw [hp9]; rfl
          have HS : Hid (∀ u, Ext wr u → (fun u => Ext wr u ∧ (∀ i, u.cell? ⟨P, i, none⟩ = #[.int .i64 k, .string t, .int .i64 m, .slice (some ⟨b, o, none⟩) N cc][i]?) ∧ u.cell? ⟨b, o + q * 4, none⟩ = some (.int .i64 k1) ∧ u.cell? ⟨b, o + q * 4 + 1, none⟩ = some (.string t1) ∧ u.cell? ⟨b, o + q * 4 + 2, none⟩ = some (.int .i64 n1) ∧ u.cell? ⟨b, o + q * 4 + 3, none⟩ = some (.slice a1 l1 c1)) u) := by
           intro u hE; have hPl := HK.out.lt; exact ⟨hE, fun i => (hE.cell (p := ⟨P, i, none⟩) hPl id).trans (hc i), (hE.cell (p := ⟨b, o + q * 4, none⟩) hb id).trans q0, (hE.cell (p := ⟨b, o + q * 4 + 1, none⟩) hb id).trans q1, (hE.cell (p := ⟨b, o + q * 4 + 2, none⟩) hb id).trans q2, (hE.cell (p := ⟨b, o + q * 4 + 3, none⟩) hb id).trans q3⟩
          have HKC : Hid (∀ u, Ext wr u → Calls Tryz.prog 176 #[.agg #[.int .i64 k, .string t, .int .i64 m, .slice (some ⟨b, o, none⟩) N cc], .int .i64 (q : Nat), .int .i64 k1] u fun e w' => e = .returned (.bool (kfF k ((N : Int) - 1) q prev k1)) ∧ Ext u w') := by
           intro u hE; refine kinds_any k m t _ N cc q k1 prev u hNm hlt fun h0 => ?_
           obtain ⟨b', o', e, hx⟩ := HPV.out h0; exact ⟨b', o', e, (hE.cell (p := ⟨b', o' + (q - 1) * 4, none⟩) (World.block_lt_of_cell? wr _ hx) id).trans hx⟩
          have HIC := Z_ (fun (u : World) (hE : Ext wr u) => HIH.out l[q] (List.getElem_mem hql) _ u (ngAt_keeps (ng_keep hE) _ _ hu)); have hr2 := hr.out; rw [isL_drop hql, hkd] at hr2; obtain ⟨K, hK⟩ : ∃ K, kfF k ((N : Int) - 1) q prev k1 = K := ⟨_, rfl⟩; obtain ⟨I, hI⟩ : ∃ I, isF l[q] = I := ⟨_, rfl⟩; rw [hK, hI] at hr2; rw [hK] at HKC; rw [hI] at HIC; have HR3 := Z_ hr2; have HKD := Z_ hkd; clear hr hr2 hcl hu hK hI hkd HPV hpv hus; cases K with
          | false =>
           go_wp2_with fail
           clear q0 q1 q2 q3 hc; refine wp_region_held_drew (S := (fun u => Ext wr u ∧ (∀ i, u.cell? ⟨P, i, none⟩ = #[.int .i64 k, .string t, .int .i64 m, .slice (some ⟨b, o, none⟩) N cc][i]?) ∧ u.cell? ⟨b, o + q * 4, none⟩ = some (.int .i64 k1) ∧ u.cell? ⟨b, o + q * 4 + 1, none⟩ = some (.string t1) ∧ u.cell? ⟨b, o + q * 4 + 2, none⟩ = some (.int .i64 n1) ∧ u.cell? ⟨b, o + q * 4 + 3, none⟩ = some (.slice a1 l1 c1))) (by kernel_rfl) (HS.out _ (Chg.refl _ _).drew) (fun hHeld => ?_)
           refine wpAnyH_take (i := 0) (v := ?vzaq0) rfl (by kernel_rfl) (by kernel_rfl) (by kernel_rfl) (fun _ _ _ h => h) (Or.inl ⟨by rfl, ?hzaq0⟩) (by assumption) ?rzaq0
           case hzaq0 => intro w hSw; (try dsimp only at hSw); go_simp; (try with_reducible rfl)
           simp only [Act.put, List.getElem_toArray, List.getElem_cons_zero, List.setIfInBounds_toArray, List.set_cons_zero, List.set_cons_succ]; refine wpAnyH_take (i := 1) (v := ?vzaq1) rfl (by kernel_rfl) (by kernel_rfl) (by kernel_rfl) (fun _ _ _ h => h) (Or.inl ⟨by rfl, ?hzaq1⟩) (by assumption) ?rzaq1
           case hzaq1 => intro w hSw; (try dsimp only at hSw); go_simp; (try with_reducible rfl)
           simp only [Act.put, List.getElem_toArray, List.getElem_cons_zero, List.getElem_cons_succ, List.setIfInBounds_toArray, List.set_cons_zero, List.set_cons_succ]; refine wpAnyH_take (i := 2) (v := ?vzaq2) rfl (by kernel_rfl) (by kernel_rfl) (by kernel_rfl) (fun _ _ _ h => h) (Or.inl ⟨by rfl, ?hzaq2⟩) (by assumption) ?rzaq2
           case hzaq2 => intro w hSw; (try dsimp only at hSw); go_simp; (try with_reducible rfl)
           simp only [Act.put, List.getElem_toArray, List.getElem_cons_zero, List.getElem_cons_succ, List.setIfInBounds_toArray, List.set_cons_zero, List.set_cons_succ]; refine wpAnyH_take (i := 3) (v := ?vzaq3) rfl (by kernel_rfl) (by kernel_rfl) (by kernel_rfl) (fun _ _ _ h => h) (Or.inl ⟨by rfl, ?hzaq3⟩) (by assumption) ?rzaq3
           case hzaq3 => intro w hSw; (try dsimp only at hSw); go_simp; (try with_reducible rfl)
           simp only [Act.put, List.getElem_toArray, List.getElem_cons_zero, List.getElem_cons_succ, List.setIfInBounds_toArray, List.set_cons_zero, List.set_cons_succ]; refine wpAnyH_take (i := 4) (v := ?vzaq4) rfl (by kernel_rfl) (by kernel_rfl) (by kernel_rfl) (fun _ _ _ h => h) (Or.inl ⟨by rfl, ?hzaq4⟩) (by assumption) ?rzaq4
           case hzaq4 => intro w hSw; (try dsimp only at hSw); go_simp; (try with_reducible rfl)
           simp only [Act.put, List.getElem_toArray, List.getElem_cons_zero, List.getElem_cons_succ, List.setIfInBounds_toArray, List.set_cons_zero, List.set_cons_succ]; refine wpAnyH_take (i := 5) (v := ?vzaq5) rfl (by kernel_rfl) (by kernel_rfl) (by kernel_rfl) (fun _ _ _ h => h) (Or.inl ⟨by rfl, ?hzaq5⟩) (by assumption) ?rzaq5
           case hzaq5 => intro w hSw; (try dsimp only at hSw); go_simp; (try with_reducible rfl)
           simp only [Act.put, List.getElem_toArray, List.getElem_cons_zero, List.getElem_cons_succ, List.setIfInBounds_toArray, List.set_cons_zero, List.set_cons_succ]; refine wpAnyH_take (i := 6) (v := ?vzaq6) rfl (by kernel_rfl) (by kernel_rfl) (by kernel_rfl) (fun _ _ _ h => h) (Or.inl ⟨by rfl, ?hzaq6⟩) (by assumption) ?rzaq6
           case hzaq6 => intro w hSw; (try dsimp only at hSw); go_simp; (try with_reducible rfl)
           simp only [Act.put, List.getElem_toArray, List.getElem_cons_zero, List.getElem_cons_succ, List.setIfInBounds_toArray, List.set_cons_zero, List.set_cons_succ]; refine wpAnyH_take (i := 7) (v := ?vzaq7) rfl (by kernel_rfl) (by kernel_rfl) (by kernel_rfl) (fun _ _ _ h => h) (Or.inl ⟨by rfl, ?hzaq7⟩) (by assumption) ?rzaq7
           case hzaq7 => intro w hSw; (try dsimp only at hSw); go_simp; (try with_reducible rfl)
           simp only [Act.put, List.getElem_toArray, List.getElem_cons_zero, List.getElem_cons_succ, List.setIfInBounds_toArray, List.set_cons_zero, List.set_cons_succ]; refine wpAnyH_ready (rs := [8]) (by kernel_rfl) (by simp) ?_
           refine AllReadyH.cons rfl (fun K2 hK2 => ?_) AllReadyH.nil
           go_simp; refine (HKC.out _ (Chg.refl _ _).drew).mono ?_
           rintro e w' ⟨rfl, hE'⟩; have hEw : Ext wr w' := ((Chg.refl _ wr).drew).ext hE'; refine hK2.out _ _ (HS.out _ hEw) (fun hHeld2 => ?_)
           clear hK2 K2 hHeld hE'
           try simp only [Act.put, List.getElem_toArray, List.getElem_cons_zero, List.getElem_cons_succ, List.setIfInBounds_toArray, List.set_cons_zero, List.set_cons_succ]
           refine wpAnyH_take (i := 9) (v := ?vzaq9) rfl (by kernel_rfl) (by kernel_rfl) (by kernel_rfl) (fun _ _ _ h => h) (Or.inl ⟨by rfl, ?hzaq9⟩) (by assumption) ?rzaq9
           case hzaq9 => intro w hSw; (try dsimp only at hSw); go_simp; (try with_reducible rfl)
           simp only [Act.put, List.getElem_toArray, List.getElem_cons_zero, List.getElem_cons_succ, List.setIfInBounds_toArray, List.set_cons_zero, List.set_cons_succ]; refine wpAnyH_take (i := 10) (v := ?vzaq10) rfl (by kernel_rfl) (by kernel_rfl) (by kernel_rfl) (fun _ _ _ h => h) (Or.inl ⟨by rfl, ?hzaq10⟩) (by assumption) ?rzaq10
           case hzaq10 => intro w hSw; (try dsimp only at hSw); go_simp; (try with_reducible rfl)
           simp only [Act.put, List.getElem_toArray, List.getElem_cons_zero, List.getElem_cons_succ, List.setIfInBounds_toArray, List.set_cons_zero, List.set_cons_succ]; refine wpAnyH_take (i := 11) (v := undef) rfl (by kernel_rfl) (by kernel_rfl) (by kernel_rfl) (fun _ _ _ h => h) (Or.inr ⟨by rfl, rfl⟩) (by assumption) ?_
           simp only [Act.put, List.getElem_toArray, List.getElem_cons_zero, List.getElem_cons_succ, List.setIfInBounds_toArray, List.set_cons_zero, List.set_cons_succ]; refine wpAnyH_take (i := 12) (v := undef) rfl (by kernel_rfl) (by kernel_rfl) (by kernel_rfl) (fun _ _ _ h => h) (Or.inr ⟨by rfl, rfl⟩) (by assumption) ?_
           simp only [Act.put, List.getElem_toArray, List.getElem_cons_zero, List.getElem_cons_succ, List.setIfInBounds_toArray, List.set_cons_zero, List.set_cons_succ]; refine wpAnyH_take (i := 13) (v := undef) rfl (by kernel_rfl) (by kernel_rfl) (by kernel_rfl) (fun _ _ _ h => h) (Or.inr ⟨by rfl, rfl⟩) (by assumption) ?_
           simp only [Act.put, List.getElem_toArray, List.getElem_cons_zero, List.getElem_cons_succ, List.setIfInBounds_toArray, List.set_cons_zero, List.set_cons_succ]; refine wpAnyH_take (i := 14) (v := undef) rfl (by kernel_rfl) (by kernel_rfl) (by kernel_rfl) (fun _ _ _ h => h) (Or.inr ⟨by rfl, rfl⟩) (by assumption) ?_
           simp only [Act.put, List.getElem_toArray, List.getElem_cons_zero, List.getElem_cons_succ, List.setIfInBounds_toArray, List.set_cons_zero, List.set_cons_succ]; refine wpAnyH_take (i := 15) (v := undef) rfl (by kernel_rfl) (by kernel_rfl) (by kernel_rfl) (fun _ _ _ h => h) (Or.inr ⟨by rfl, rfl⟩) (by assumption) ?_
           simp only [Act.put, List.getElem_toArray, List.getElem_cons_zero, List.getElem_cons_succ, List.setIfInBounds_toArray, List.set_cons_zero, List.set_cons_succ]; refine wpAnyH_take (i := 16) (v := undef) rfl (by kernel_rfl) (by kernel_rfl) (by kernel_rfl) (fun _ _ _ h => h) (Or.inr ⟨by rfl, rfl⟩) (by assumption) ?_
           simp only [Act.put, List.getElem_toArray, List.getElem_cons_zero, List.getElem_cons_succ, List.setIfInBounds_toArray, List.set_cons_zero, List.set_cons_succ]; refine wpAnyH_take (i := 17) (v := undef) rfl (by kernel_rfl) (by kernel_rfl) (by kernel_rfl) (fun _ _ _ h => h) (Or.inr ⟨by rfl, rfl⟩) (by assumption) ?_
           simp only [Act.put, List.getElem_toArray, List.getElem_cons_zero, List.getElem_cons_succ, List.setIfInBounds_toArray, List.set_cons_zero, List.set_cons_succ]; refine wpAnyH_take (i := 18) (v := ?vzaq18) rfl (by kernel_rfl) (by kernel_rfl) (by kernel_rfl) (fun _ _ _ h => h) (Or.inl ⟨by rfl, ?hzaq18⟩) (by assumption) ?rzaq18
           case hzaq18 => intro w hSw; (try dsimp only at hSw); go_simp; (try with_reducible rfl)
           simp only [Act.put, List.getElem_toArray, List.getElem_cons_zero, List.getElem_cons_succ, List.setIfInBounds_toArray, List.set_cons_zero, List.set_cons_succ]; refine wpAnyH_done (by kernel_rfl) ?_ _
           have hEnd := hHeld2.1; clear hHeld2; go_wp2_with fail
           go_ret
           exact NO.out _ (HE.out.ext hEw) (by rw [← HR3.out]; rfl)
          | true =>
           go_wp2_with fail
           clear q0 q1 q2 q3 hc; refine wp_region_held_drew (S := (fun u => Ext wr u ∧ (∀ i, u.cell? ⟨P, i, none⟩ = #[.int .i64 k, .string t, .int .i64 m, .slice (some ⟨b, o, none⟩) N cc][i]?) ∧ u.cell? ⟨b, o + q * 4, none⟩ = some (.int .i64 k1) ∧ u.cell? ⟨b, o + q * 4 + 1, none⟩ = some (.string t1) ∧ u.cell? ⟨b, o + q * 4 + 2, none⟩ = some (.int .i64 n1) ∧ u.cell? ⟨b, o + q * 4 + 3, none⟩ = some (.slice a1 l1 c1))) (by kernel_rfl) (HS.out _ (Chg.refl _ _).drew) (fun hHeld => ?_)
           refine wpAnyH_take (i := 0) (v := ?vyaq0) rfl (by kernel_rfl) (by kernel_rfl) (by kernel_rfl) (fun _ _ _ h => h) (Or.inl ⟨by rfl, ?hyaq0⟩) (by assumption) ?ryaq0
           case hyaq0 => intro w hSw; (try dsimp only at hSw); go_simp; (try with_reducible rfl)
           simp only [Act.put, List.getElem_toArray, List.getElem_cons_zero, List.setIfInBounds_toArray, List.set_cons_zero, List.set_cons_succ]; refine wpAnyH_take (i := 1) (v := ?vyaq1) rfl (by kernel_rfl) (by kernel_rfl) (by kernel_rfl) (fun _ _ _ h => h) (Or.inl ⟨by rfl, ?hyaq1⟩) (by assumption) ?ryaq1
           case hyaq1 => intro w hSw; (try dsimp only at hSw); go_simp; (try with_reducible rfl)
           simp only [Act.put, List.getElem_toArray, List.getElem_cons_zero, List.getElem_cons_succ, List.setIfInBounds_toArray, List.set_cons_zero, List.set_cons_succ]; refine wpAnyH_take (i := 2) (v := ?vyaq2) rfl (by kernel_rfl) (by kernel_rfl) (by kernel_rfl) (fun _ _ _ h => h) (Or.inl ⟨by rfl, ?hyaq2⟩) (by assumption) ?ryaq2
           case hyaq2 => intro w hSw; (try dsimp only at hSw); go_simp; (try with_reducible rfl)
           simp only [Act.put, List.getElem_toArray, List.getElem_cons_zero, List.getElem_cons_succ, List.setIfInBounds_toArray, List.set_cons_zero, List.set_cons_succ]; refine wpAnyH_take (i := 3) (v := ?vyaq3) rfl (by kernel_rfl) (by kernel_rfl) (by kernel_rfl) (fun _ _ _ h => h) (Or.inl ⟨by rfl, ?hyaq3⟩) (by assumption) ?ryaq3
           case hyaq3 => intro w hSw; (try dsimp only at hSw); go_simp; (try with_reducible rfl)
           simp only [Act.put, List.getElem_toArray, List.getElem_cons_zero, List.getElem_cons_succ, List.setIfInBounds_toArray, List.set_cons_zero, List.set_cons_succ]; refine wpAnyH_take (i := 4) (v := ?vyaq4) rfl (by kernel_rfl) (by kernel_rfl) (by kernel_rfl) (fun _ _ _ h => h) (Or.inl ⟨by rfl, ?hyaq4⟩) (by assumption) ?ryaq4
           case hyaq4 => intro w hSw; (try dsimp only at hSw); go_simp; (try with_reducible rfl)
           simp only [Act.put, List.getElem_toArray, List.getElem_cons_zero, List.getElem_cons_succ, List.setIfInBounds_toArray, List.set_cons_zero, List.set_cons_succ]; refine wpAnyH_take (i := 5) (v := ?vyaq5) rfl (by kernel_rfl) (by kernel_rfl) (by kernel_rfl) (fun _ _ _ h => h) (Or.inl ⟨by rfl, ?hyaq5⟩) (by assumption) ?ryaq5
           case hyaq5 => intro w hSw; (try dsimp only at hSw); go_simp; (try with_reducible rfl)
           simp only [Act.put, List.getElem_toArray, List.getElem_cons_zero, List.getElem_cons_succ, List.setIfInBounds_toArray, List.set_cons_zero, List.set_cons_succ]; refine wpAnyH_take (i := 6) (v := ?vyaq6) rfl (by kernel_rfl) (by kernel_rfl) (by kernel_rfl) (fun _ _ _ h => h) (Or.inl ⟨by rfl, ?hyaq6⟩) (by assumption) ?ryaq6
           case hyaq6 => intro w hSw; (try dsimp only at hSw); go_simp; (try with_reducible rfl)
           simp only [Act.put, List.getElem_toArray, List.getElem_cons_zero, List.getElem_cons_succ, List.setIfInBounds_toArray, List.set_cons_zero, List.set_cons_succ]; refine wpAnyH_take (i := 7) (v := ?vyaq7) rfl (by kernel_rfl) (by kernel_rfl) (by kernel_rfl) (fun _ _ _ h => h) (Or.inl ⟨by rfl, ?hyaq7⟩) (by assumption) ?ryaq7
           case hyaq7 => intro w hSw; (try dsimp only at hSw); go_simp; (try with_reducible rfl)
           simp only [Act.put, List.getElem_toArray, List.getElem_cons_zero, List.getElem_cons_succ, List.setIfInBounds_toArray, List.set_cons_zero, List.set_cons_succ]; refine wpAnyH_ready (rs := [8]) (by kernel_rfl) (by simp) ?_
           refine AllReadyH.cons rfl (fun K2 hK2 => ?_) AllReadyH.nil
           go_simp; refine (HKC.out _ (Chg.refl _ _).drew).mono ?_
           rintro e w' ⟨rfl, hE'⟩; have hE3 : Ext wr w' := ((Chg.refl _ wr).drew).ext hE'; refine hK2.out _ _ (HS.out _ hE3) (fun hHeld2 => ?_)
           clear hK2 K2 hHeld hE'
           try simp only [Act.put, List.getElem_toArray, List.getElem_cons_zero, List.getElem_cons_succ, List.setIfInBounds_toArray, List.set_cons_zero, List.set_cons_succ]
           refine wpAnyH_take (i := 9) (v := ?vyaq9) rfl (by kernel_rfl) (by kernel_rfl) (by kernel_rfl) (fun _ _ _ h => h) (Or.inl ⟨by rfl, ?hyaq9⟩) (by assumption) ?ryaq9
           case hyaq9 => intro w hSw; (try dsimp only at hSw); go_simp; (try with_reducible rfl)
           simp only [Act.put, List.getElem_toArray, List.getElem_cons_zero, List.getElem_cons_succ, List.setIfInBounds_toArray, List.set_cons_zero, List.set_cons_succ]; refine wpAnyH_take (i := 10) (v := ?vyaq10) rfl (by kernel_rfl) (by kernel_rfl) (by kernel_rfl) (fun _ _ _ h => h) (Or.inl ⟨by rfl, ?hyaq10⟩) (by assumption) ?ryaq10
           case hyaq10 => intro w hSw; (try dsimp only at hSw); go_simp; (try with_reducible rfl)
           simp only [Act.put, List.getElem_toArray, List.getElem_cons_zero, List.getElem_cons_succ, List.setIfInBounds_toArray, List.set_cons_zero, List.set_cons_succ]; refine wpAnyH_take (i := 11) (v := ?vyaq11) rfl (by kernel_rfl) (by kernel_rfl) (by kernel_rfl) (fun _ _ _ h => h) (Or.inl ⟨by rfl, ?hyaq11⟩) (by assumption) ?ryaq11
           case hyaq11 => intro w hSw; (try dsimp only at hSw); go_simp; (try with_reducible rfl)
           simp only [Act.put, List.getElem_toArray, List.getElem_cons_zero, List.getElem_cons_succ, List.setIfInBounds_toArray, List.set_cons_zero, List.set_cons_succ]; refine wpAnyH_take (i := 12) (v := ?vyaq12) rfl (by kernel_rfl) (by kernel_rfl) (by kernel_rfl) (fun _ _ _ h => h) (Or.inl ⟨by rfl, ?hyaq12⟩) (by assumption) ?ryaq12
           case hyaq12 => intro w hSw; (try dsimp only at hSw); go_simp; (try with_reducible rfl)
           simp only [Act.put, List.getElem_toArray, List.getElem_cons_zero, List.getElem_cons_succ, List.setIfInBounds_toArray, List.set_cons_zero, List.set_cons_succ]; refine wpAnyH_take (i := 13) (v := ?vyaq13) rfl (by kernel_rfl) (by kernel_rfl) (by kernel_rfl) (fun _ _ _ h => h) (Or.inl ⟨by rfl, ?hyaq13⟩) (by assumption) ?ryaq13
           case hyaq13 => intro w hSw; (try dsimp only at hSw); go_simp; (try with_reducible rfl)
           simp only [Act.put, List.getElem_toArray, List.getElem_cons_zero, List.getElem_cons_succ, List.setIfInBounds_toArray, List.set_cons_zero, List.set_cons_succ]; refine wpAnyH_take (i := 14) (v := ?vyaq14) rfl (by kernel_rfl) (by kernel_rfl) (by kernel_rfl) (fun _ _ _ h => h) (Or.inl ⟨by rfl, ?hyaq14⟩) (by assumption) ?ryaq14
           case hyaq14 => intro w hSw; (try dsimp only at hSw); go_simp; (try with_reducible rfl)
           simp only [Act.put, List.getElem_toArray, List.getElem_cons_zero, List.getElem_cons_succ, List.setIfInBounds_toArray, List.set_cons_zero, List.set_cons_succ]; refine wpAnyH_take (i := 15) (v := ?vyaq15) rfl (by kernel_rfl) (by kernel_rfl) (by kernel_rfl) (fun _ _ _ h => h) (Or.inl ⟨by rfl, ?hyaq15⟩) (by assumption) ?ryaq15
           case hyaq15 => intro w hSw; (try dsimp only at hSw); go_simp; (try with_reducible rfl)
           simp only [Act.put, List.getElem_toArray, List.getElem_cons_zero, List.getElem_cons_succ, List.setIfInBounds_toArray, List.set_cons_zero, List.set_cons_succ]; refine wpAnyH_ready (rs := [16]) (by kernel_rfl) (by simp) ?_
           refine AllReadyH.cons rfl (fun K3 hK3 => ?_) AllReadyH.nil
           go_simp; refine (HIC.out _ hE3).mono ?_
           rintro e w'' ⟨rfl, hE4⟩; have hE5 : Ext wr w'' := hE3.ext hE4; refine hK3.out _ _ (HS.out _ hE5) (fun hHeld3 => ?_)
           clear hK3 K3 hHeld2 hE4
           try simp only [Act.put, List.getElem_toArray, List.getElem_cons_zero, List.getElem_cons_succ, List.setIfInBounds_toArray, List.set_cons_zero, List.set_cons_succ]
           refine wpAnyH_take (i := 17) (v := ?vyaq17) rfl (by kernel_rfl) (by kernel_rfl) (by kernel_rfl) (fun _ _ _ h => h) (Or.inl ⟨by rfl, ?hyaq17⟩) (by assumption) ?ryaq17
           case hyaq17 => intro w hSw; (try dsimp only at hSw); go_simp; (try with_reducible rfl)
           simp only [Act.put, List.getElem_toArray, List.getElem_cons_zero, List.getElem_cons_succ, List.setIfInBounds_toArray, List.set_cons_zero, List.set_cons_succ]; refine wpAnyH_take (i := 18) (v := ?vyaq18) rfl (by kernel_rfl) (by kernel_rfl) (by kernel_rfl) (fun _ _ _ h => h) (Or.inl ⟨by rfl, ?hyaq18⟩) (by assumption) ?ryaq18
           case hyaq18 => intro w hSw; (try dsimp only at hSw); go_simp; (try with_reducible rfl)
           simp only [Act.put, List.getElem_toArray, List.getElem_cons_zero, List.getElem_cons_succ, List.setIfInBounds_toArray, List.set_cons_zero, List.set_cons_succ]; refine wpAnyH_done (by kernel_rfl) ?_ _
           clear hHeld3; have HE9 := Z_ (HE.out.ext hE5); have HK9 := Z_ (HK.out.ext hE5); clear hE3 hE5 HE HK HS HKC HIC; cases I with
           | true =>
            go_wp2_with fail
            go_roundw
            case rel => exact ⟨q + 1, k1, by omega, by go_num, fun h _ => by rw [← HKD.out]; simp, Z_ (by have := HR3.out; simpa using this), HE9, HK9⟩
            case measure => simp [intOf]; omega
           | false =>
            go_wp2_with fail
            go_ret
            exact NO.out _ HE9.out (by rw [← HR3.out]; rfl)
         ·obtain rfl : q = N := by omega
          have hqd : decide ((q : Int) < (q : Int)) = false := by simp
          have hT : R = true := by have := hr.out; rw [List.drop_of_length_le (by rw [HN.out]; exact Nat.le_refl _), isL] at this; exact this.symm
          subst hT; clear hr hpv; go_wp2_with fail
          go_ret
          exact ⟨rfl, HE.out⟩

       ·have hmd1 : decide (num < m) = true := by simpa using hmn
        clear HPRE; go_wp2_with fail
        go_ret
        exact NO.out _ HE4.out (by rw [hpre, show decide (m ≤ num) = false by simpa using hmn]; simp)
      ·have hmd0 : decide (m < 0) = true := by simpa using hmm0
       clear HPRE; go_wp2_with fail
       go_ret
       exact NO.out _ HE4.out (by rw [hpre, show decide (0 ≤ m) = false by simpa using hmm0]; simp)
    ·skip
     go_wp2_with fail
     refine HTC.out.mono ?_
     rintro e w3 ⟨rfl, hE3⟩; have HE4 := Z_ (HE2.out.ext hE3); have HK4 := Z_ (HK2.out.ext hE3); clear hq1 HTC hE3; have hq1 := HK4.out.cell; cases T with
     | false =>
      go_wp2_with fail
      go_ret
      exact NO.out _ HE4.out (by rw [HPRE.out]; rfl)
     | true =>
     obtain ⟨w4, hw4e⟩ : ∃ u, u = w3 := ⟨_, rfl⟩; clear hw4e w4; by_cases h19 : k = 19
     ·have h19t : (k == 19) = true := by simpa using h19
      have hemp := empty_eq (signF m).1; have hpre := HPRE.out; rw [if_pos h19] at hpre; obtain ⟨Z, hZ⟩ : ∃ Z, signF m = Z := ⟨_, rfl⟩; rw [hZ] at hemp hpre HSG; obtain ⟨z1, z2⟩ := Z; simp only at hemp hpre HSG; obtain ⟨E, hEE⟩ : ∃ E, decide (z1 = noText) = E := ⟨_, rfl⟩; rw [hEE] at hemp hpre; have HL0 := Z_ hpre; clear hpre HPRE hZ hEE; go_wp2_with fail
      refine (HSG.out w3).mono ?_
      rintro e w5 ⟨rfl, hE5⟩; have HE5 := Z_ (HE4.out.ext hE5); have HK5 := Z_ (HK4.out.ext hE5); have HK4x := HK5; clear hq1 hE5; have hq1 := HK5.out.cell; cases E with
      | true =>
       go_wp2_with fail
       go_ret
       exact NO.out _ HE5.out (by rw [HL0.out]; rfl)
      | false =>
      have HL := Z_ (show R = isL k N l 0 0 by rw [HL0.out]; rfl); go_upto_region 10 with (fail)
      clear HL0 h19 h19t hemp; go_wp2_with fail
      clear hq1 HK4x; go_loopw [10] (fun i wr => ∃ (q : Nat) (prev : Int), q ≤ N ∧ i = .int .i64 q ∧ Hid (∀ h : q - 1 < l.length, 0 < q → prev = l[q - 1].kd) ∧ Hid (isL k N (l.drop q) q prev = R) ∧ Hid (Ext w wr) ∧ Hid (Blk wr P #[.int .i64 k, .string t, .int .i64 m, .slice a N cc] 66)) (fun i _ => N - (intOf i).toNat)
      case atStart => exact ⟨0, 0, Nat.zero_le _, rfl, fun _ h => absurd h (by decide), HL.out.symm, HE5, HK5⟩
      clear HE5 HK5
      case round =>
       obtain ⟨q, prev, hq, rfl, hpv, hr, HE, HK⟩ := hrel; have hc := HK.out.cell; by_cases hlt : q < N
       ·have hql : q < l.length := by rw [HN.out]; exact hlt
        have hqi : (q : Int) < (N : Int) := by omega
        have hqd : decide ((q : Int) < (N : Int)) = true := by simpa using hqi
        obtain ⟨b, o, rfl, hb, u, hu, hus, hcl⟩ := HI.out wr HE.out q hql; obtain ⟨k1, t1, n1, a1, l1, c1, rfl⟩ := ng_form hu
        have hkd : l[q].kd = k1 := by
         have h9 := hu; generalize l[q] = z at h9 ⊢; obtain ⟨kz, tz, mz, lz⟩ := z; rw [ngAt_mk] at h9; obtain ⟨az, cz, e, -⟩ := h9; injection e with e
         injection e with e
         injection e with e _
         injection e with _ e
         exact e.symm
        have q0 : wr.cell? ⟨b, o + q * 4, none⟩ = some (.int .i64 k1) := (hcl 0 (by decide)).trans rfl; have q1 : wr.cell? ⟨b, o + q * 4 + 1, none⟩ = some (.string t1) := (hcl 1 (by decide)).trans rfl; have q2 : wr.cell? ⟨b, o + q * 4 + 2, none⟩ = some (.int .i64 n1) := (hcl 2 (by decide)).trans rfl; have q3 : wr.cell? ⟨b, o + q * 4 + 3, none⟩ = some (.slice a1 l1 c1) := (hcl 3 (by decide)).trans rfl
        have HPV : Hid (0 < q → ∃ b' o', (some ⟨b, o, none⟩ : Option Addr) = some ⟨b', o', none⟩ ∧ wr.cell? ⟨b', o' + (q - 1) * 4, none⟩ = some (.int .i64 prev)) := by
         intro h0; have hql1 : q - 1 < l.length := by omega
         obtain ⟨b', o', e, hb', u', hu', hus', hcl'⟩ := HI.out wr HE.out (q - 1) hql1; refine ⟨b', o', e, (hcl' 0 (by decide)).trans ?_⟩
         have hp9 := hpv.out hql1 h0; generalize l[q - 1] = z at hu' hp9; obtain ⟨kz, tz, mz, lz⟩ := z; rw [ngAt_mk] at hu'; obtain ⟨az, cz, rfl, -⟩ := hu'; rw [hp9]; rfl
        have HS : Hid (∀ u, Ext wr u → (fun u => Ext wr u ∧ (∀ i, u.cell? ⟨P, i, none⟩ = #[.int .i64 k, .string t, .int .i64 m, .slice (some ⟨b, o, none⟩) N cc][i]?) ∧ u.cell? ⟨b, o + q * 4, none⟩ = some (.int .i64 k1) ∧ u.cell? ⟨b, o + q * 4 + 1, none⟩ = some (.string t1) ∧ u.cell? ⟨b, o + q * 4 + 2, none⟩ = some (.int .i64 n1) ∧ u.cell? ⟨b, o + q * 4 + 3, none⟩ = some (.slice a1 l1 c1)) u) := by
         intro u hE; have hPl := HK.out.lt; exact ⟨hE, fun i => (hE.cell (p := ⟨P, i, none⟩) hPl id).trans (hc i), (hE.cell (p := ⟨b, o + q * 4, none⟩) hb id).trans q0, (hE.cell (p := ⟨b, o + q * 4 + 1, none⟩) hb id).trans q1, (hE.cell (p := ⟨b, o + q * 4 + 2, none⟩) hb id).trans q2, (hE.cell (p := ⟨b, o + q * 4 + 3, none⟩) hb id).trans q3⟩
        have HKC : Hid (∀ u, Ext wr u → Calls Tryz.prog 176 #[.agg #[.int .i64 k, .string t, .int .i64 m, .slice (some ⟨b, o, none⟩) N cc], .int .i64 (q : Nat), .int .i64 k1] u fun e w' => e = .returned (.bool (kfF k ((N : Int) - 1) q prev k1)) ∧ Ext u w') := by
         intro u hE; refine kinds_any k m t _ N cc q k1 prev u hNm hlt fun h0 => ?_
         obtain ⟨b', o', e, hx⟩ := HPV.out h0; exact ⟨b', o', e, (hE.cell (p := ⟨b', o' + (q - 1) * 4, none⟩) (World.block_lt_of_cell? wr _ hx) id).trans hx⟩
        have HIC := Z_ (fun (u : World) (hE : Ext wr u) => HIH.out l[q] (List.getElem_mem hql) _ u (ngAt_keeps (ng_keep hE) _ _ hu)); have hr2 := hr.out; rw [isL_drop hql, hkd] at hr2; obtain ⟨K, hK⟩ : ∃ K, kfF k ((N : Int) - 1) q prev k1 = K := ⟨_, rfl⟩; obtain ⟨I, hI⟩ : ∃ I, isF l[q] = I := ⟨_, rfl⟩; rw [hK, hI] at hr2; rw [hK] at HKC; rw [hI] at HIC; have HR3 := Z_ hr2; have HKD := Z_ hkd; clear hr hr2 hcl hu hK hI hkd HPV hpv hus; cases K with
        | false =>
         go_wp2_with fail
         clear q0 q1 q2 q3 hc; refine wp_region_held_drew (S := (fun u => Ext wr u ∧ (∀ i, u.cell? ⟨P, i, none⟩ = #[.int .i64 k, .string t, .int .i64 m, .slice (some ⟨b, o, none⟩) N cc][i]?) ∧ u.cell? ⟨b, o + q * 4, none⟩ = some (.int .i64 k1) ∧ u.cell? ⟨b, o + q * 4 + 1, none⟩ = some (.string t1) ∧ u.cell? ⟨b, o + q * 4 + 2, none⟩ = some (.int .i64 n1) ∧ u.cell? ⟨b, o + q * 4 + 3, none⟩ = some (.slice a1 l1 c1))) (by kernel_rfl) (HS.out _ (Chg.refl _ _).drew) (fun hHeld => ?_)
         refine wpAnyH_take (i := 0) (v := ?vzbp0) rfl (by kernel_rfl) (by kernel_rfl) (by kernel_rfl) (fun _ _ _ h => h) (Or.inl ⟨by rfl, ?hzbp0⟩) (by assumption) ?rzbp0
         case hzbp0 => intro w hSw; (try dsimp only at hSw); go_simp; (try with_reducible rfl)
         simp only [Act.put, List.getElem_toArray, List.getElem_cons_zero, List.setIfInBounds_toArray, List.set_cons_zero, List.set_cons_succ]; refine wpAnyH_take (i := 1) (v := ?vzbp1) rfl (by kernel_rfl) (by kernel_rfl) (by kernel_rfl) (fun _ _ _ h => h) (Or.inl ⟨by rfl, ?hzbp1⟩) (by assumption) ?rzbp1
         case hzbp1 => intro w hSw; (try dsimp only at hSw); go_simp; (try with_reducible rfl)
         simp only [Act.put, List.getElem_toArray, List.getElem_cons_zero, List.getElem_cons_succ, List.setIfInBounds_toArray, List.set_cons_zero, List.set_cons_succ]; refine wpAnyH_take (i := 2) (v := ?vzbp2) rfl (by kernel_rfl) (by kernel_rfl) (by kernel_rfl) (fun _ _ _ h => h) (Or.inl ⟨by rfl, ?hzbp2⟩) (by assumption) ?rzbp2
         case hzbp2 => intro w hSw; (try dsimp only at hSw); go_simp; (try with_reducible rfl)
         simp only [Act.put, List.getElem_toArray, List.getElem_cons_zero, List.getElem_cons_succ, List.setIfInBounds_toArray, List.set_cons_zero, List.set_cons_succ]; refine wpAnyH_take (i := 3) (v := ?vzbp3) rfl (by kernel_rfl) (by kernel_rfl) (by kernel_rfl) (fun _ _ _ h => h) (Or.inl ⟨by rfl, ?hzbp3⟩) (by assumption) ?rzbp3
         case hzbp3 => intro w hSw; (try dsimp only at hSw); go_simp; (try with_reducible rfl)
         simp only [Act.put, List.getElem_toArray, List.getElem_cons_zero, List.getElem_cons_succ, List.setIfInBounds_toArray, List.set_cons_zero, List.set_cons_succ]; refine wpAnyH_take (i := 4) (v := ?vzbp4) rfl (by kernel_rfl) (by kernel_rfl) (by kernel_rfl) (fun _ _ _ h => h) (Or.inl ⟨by rfl, ?hzbp4⟩) (by assumption) ?rzbp4
         case hzbp4 => intro w hSw; (try dsimp only at hSw); go_simp; (try with_reducible rfl)
         simp only [Act.put, List.getElem_toArray, List.getElem_cons_zero, List.getElem_cons_succ, List.setIfInBounds_toArray, List.set_cons_zero, List.set_cons_succ]; refine wpAnyH_take (i := 5) (v := ?vzbp5) rfl (by kernel_rfl) (by kernel_rfl) (by kernel_rfl) (fun _ _ _ h => h) (Or.inl ⟨by rfl, ?hzbp5⟩) (by assumption) ?rzbp5
         case hzbp5 => intro w hSw; (try dsimp only at hSw); go_simp; (try with_reducible rfl)
         simp only [Act.put, List.getElem_toArray, List.getElem_cons_zero, List.getElem_cons_succ, List.setIfInBounds_toArray, List.set_cons_zero, List.set_cons_succ]; refine wpAnyH_take (i := 6) (v := ?vzbp6) rfl (by kernel_rfl) (by kernel_rfl) (by kernel_rfl) (fun _ _ _ h => h) (Or.inl ⟨by rfl, ?hzbp6⟩) (by assumption) ?rzbp6
         case hzbp6 => intro w hSw; (try dsimp only at hSw); go_simp; (try with_reducible rfl)
         simp only [Act.put, List.getElem_toArray, List.getElem_cons_zero, List.getElem_cons_succ, List.setIfInBounds_toArray, List.set_cons_zero, List.set_cons_succ]; refine wpAnyH_take (i := 7) (v := ?vzbp7) rfl (by kernel_rfl) (by kernel_rfl) (by kernel_rfl) (fun _ _ _ h => h) (Or.inl ⟨by rfl, ?hzbp7⟩) (by assumption) ?rzbp7
         case hzbp7 => intro w hSw; (try dsimp only at hSw); go_simp; (try with_reducible rfl)
         simp only [Act.put, List.getElem_toArray, List.getElem_cons_zero, List.getElem_cons_succ, List.setIfInBounds_toArray, List.set_cons_zero, List.set_cons_succ]; refine wpAnyH_ready (rs := [8]) (by kernel_rfl) (by simp) ?_
         refine AllReadyH.cons rfl (fun K2 hK2 => ?_) AllReadyH.nil
         go_simp; refine (HKC.out _ (Chg.refl _ _).drew).mono ?_
         rintro e w' ⟨rfl, hE'⟩; have hEw : Ext wr w' := ((Chg.refl _ wr).drew).ext hE'; refine hK2.out _ _ (HS.out _ hEw) (fun hHeld2 => ?_)
         clear hK2 K2 hHeld hE'
         try simp only [Act.put, List.getElem_toArray, List.getElem_cons_zero, List.getElem_cons_succ, List.setIfInBounds_toArray, List.set_cons_zero, List.set_cons_succ]
         refine wpAnyH_take (i := 9) (v := ?vzbp9) rfl (by kernel_rfl) (by kernel_rfl) (by kernel_rfl) (fun _ _ _ h => h) (Or.inl ⟨by rfl, ?hzbp9⟩) (by assumption) ?rzbp9
         case hzbp9 => intro w hSw; (try dsimp only at hSw); go_simp; (try with_reducible rfl)
         simp only [Act.put, List.getElem_toArray, List.getElem_cons_zero, List.getElem_cons_succ, List.setIfInBounds_toArray, List.set_cons_zero, List.set_cons_succ]; refine wpAnyH_take (i := 10) (v := ?vzbp10) rfl (by kernel_rfl) (by kernel_rfl) (by kernel_rfl) (fun _ _ _ h => h) (Or.inl ⟨by rfl, ?hzbp10⟩) (by assumption) ?rzbp10
         case hzbp10 => intro w hSw; (try dsimp only at hSw); go_simp; (try with_reducible rfl)
         simp only [Act.put, List.getElem_toArray, List.getElem_cons_zero, List.getElem_cons_succ, List.setIfInBounds_toArray, List.set_cons_zero, List.set_cons_succ]; refine wpAnyH_take (i := 11) (v := undef) rfl (by kernel_rfl) (by kernel_rfl) (by kernel_rfl) (fun _ _ _ h => h) (Or.inr ⟨by rfl, rfl⟩) (by assumption) ?_
         simp only [Act.put, List.getElem_toArray, List.getElem_cons_zero, List.getElem_cons_succ, List.setIfInBounds_toArray, List.set_cons_zero, List.set_cons_succ]; refine wpAnyH_take (i := 12) (v := undef) rfl (by kernel_rfl) (by kernel_rfl) (by kernel_rfl) (fun _ _ _ h => h) (Or.inr ⟨by rfl, rfl⟩) (by assumption) ?_
         simp only [Act.put, List.getElem_toArray, List.getElem_cons_zero, List.getElem_cons_succ, List.setIfInBounds_toArray, List.set_cons_zero, List.set_cons_succ]; refine wpAnyH_take (i := 13) (v := undef) rfl (by kernel_rfl) (by kernel_rfl) (by kernel_rfl) (fun _ _ _ h => h) (Or.inr ⟨by rfl, rfl⟩) (by assumption) ?_
         simp only [Act.put, List.getElem_toArray, List.getElem_cons_zero, List.getElem_cons_succ, List.setIfInBounds_toArray, List.set_cons_zero, List.set_cons_succ]; refine wpAnyH_take (i := 14) (v := undef) rfl (by kernel_rfl) (by kernel_rfl) (by kernel_rfl) (fun _ _ _ h => h) (Or.inr ⟨by rfl, rfl⟩) (by assumption) ?_
         simp only [Act.put, List.getElem_toArray, List.getElem_cons_zero, List.getElem_cons_succ, List.setIfInBounds_toArray, List.set_cons_zero, List.set_cons_succ]; refine wpAnyH_take (i := 15) (v := undef) rfl (by kernel_rfl) (by kernel_rfl) (by kernel_rfl) (fun _ _ _ h => h) (Or.inr ⟨by rfl, rfl⟩) (by assumption) ?_
         simp only [Act.put, List.getElem_toArray, List.getElem_cons_zero, List.getElem_cons_succ, List.setIfInBounds_toArray, List.set_cons_zero, List.set_cons_succ]; refine wpAnyH_take (i := 16) (v := undef) rfl (by kernel_rfl) (by kernel_rfl) (by kernel_rfl) (fun _ _ _ h => h) (Or.inr ⟨by rfl, rfl⟩) (by assumption) ?_
         simp only [Act.put, List.getElem_toArray, List.getElem_cons_zero, List.getElem_cons_succ, List.setIfInBounds_toArray, List.set_cons_zero, List.set_cons_succ]; refine wpAnyH_take (i := 17) (v := undef) rfl (by kernel_rfl) (by kernel_rfl) (by kernel_rfl) (fun _ _ _ h => h) (Or.inr ⟨by rfl, rfl⟩) (by assumption) ?_
         simp only [Act.put, List.getElem_toArray, List.getElem_cons_zero, List.getElem_cons_succ, List.setIfInBounds_toArray, List.set_cons_zero, List.set_cons_succ]; refine wpAnyH_take (i := 18) (v := ?vzbp18) rfl (by kernel_rfl) (by kernel_rfl) (by kernel_rfl) (fun _ _ _ h => h) (Or.inl ⟨by rfl, ?hzbp18⟩) (by assumption) ?rzbp18
         case hzbp18 => intro w hSw; (try dsimp only at hSw); go_simp; (try with_reducible rfl)
         simp only [Act.put, List.getElem_toArray, List.getElem_cons_zero, List.getElem_cons_succ, List.setIfInBounds_toArray, List.set_cons_zero, List.set_cons_succ]; refine wpAnyH_done (by kernel_rfl) ?_ _
         have hEnd := hHeld2.1; clear hHeld2; go_wp2_with fail
         go_ret
         exact NO.out _ (HE.out.ext hEw) (by rw [← HR3.out]; rfl)
        | true =>
         go_wp2_with fail
         clear q0 q1 q2 q3 hc; refine wp_region_held_drew (S := (fun u => Ext wr u ∧ (∀ i, u.cell? ⟨P, i, none⟩ = #[.int .i64 k, .string t, .int .i64 m, .slice (some ⟨b, o, none⟩) N cc][i]?) ∧ u.cell? ⟨b, o + q * 4, none⟩ = some (.int .i64 k1) ∧ u.cell? ⟨b, o + q * 4 + 1, none⟩ = some (.string t1) ∧ u.cell? ⟨b, o + q * 4 + 2, none⟩ = some (.int .i64 n1) ∧ u.cell? ⟨b, o + q * 4 + 3, none⟩ = some (.slice a1 l1 c1))) (by kernel_rfl) (HS.out _ (Chg.refl _ _).drew) (fun hHeld => ?_)
         refine wpAnyH_take (i := 0) (v := ?vybp0) rfl (by kernel_rfl) (by kernel_rfl) (by kernel_rfl) (fun _ _ _ h => h) (Or.inl ⟨by rfl, ?hybp0⟩) (by assumption) ?rybp0
         case hybp0 => intro w hSw; (try dsimp only at hSw); go_simp; (try with_reducible rfl)
         simp only [Act.put, List.getElem_toArray, List.getElem_cons_zero, List.setIfInBounds_toArray, List.set_cons_zero, List.set_cons_succ]; refine wpAnyH_take (i := 1) (v := ?vybp1) rfl (by kernel_rfl) (by kernel_rfl) (by kernel_rfl) (fun _ _ _ h => h) (Or.inl ⟨by rfl, ?hybp1⟩) (by assumption) ?rybp1
         case hybp1 => intro w hSw; (try dsimp only at hSw); go_simp; (try with_reducible rfl)
         simp only [Act.put, List.getElem_toArray, List.getElem_cons_zero, List.getElem_cons_succ, List.setIfInBounds_toArray, List.set_cons_zero, List.set_cons_succ]; refine wpAnyH_take (i := 2) (v := ?vybp2) rfl (by kernel_rfl) (by kernel_rfl) (by kernel_rfl) (fun _ _ _ h => h) (Or.inl ⟨by rfl, ?hybp2⟩) (by assumption) ?rybp2
         case hybp2 => intro w hSw; (try dsimp only at hSw); go_simp; (try with_reducible rfl)
         simp only [Act.put, List.getElem_toArray, List.getElem_cons_zero, List.getElem_cons_succ, List.setIfInBounds_toArray, List.set_cons_zero, List.set_cons_succ]; refine wpAnyH_take (i := 3) (v := ?vybp3) rfl (by kernel_rfl) (by kernel_rfl) (by kernel_rfl) (fun _ _ _ h => h) (Or.inl ⟨by rfl, ?hybp3⟩) (by assumption) ?rybp3
         case hybp3 => intro w hSw; (try dsimp only at hSw); go_simp; (try with_reducible rfl)
         simp only [Act.put, List.getElem_toArray, List.getElem_cons_zero, List.getElem_cons_succ, List.setIfInBounds_toArray, List.set_cons_zero, List.set_cons_succ]; refine wpAnyH_take (i := 4) (v := ?vybp4) rfl (by kernel_rfl) (by kernel_rfl) (by kernel_rfl) (fun _ _ _ h => h) (Or.inl ⟨by rfl, ?hybp4⟩) (by assumption) ?rybp4
         case hybp4 => intro w hSw; (try dsimp only at hSw); go_simp; (try with_reducible rfl)
         simp only [Act.put, List.getElem_toArray, List.getElem_cons_zero, List.getElem_cons_succ, List.setIfInBounds_toArray, List.set_cons_zero, List.set_cons_succ]; refine wpAnyH_take (i := 5) (v := ?vybp5) rfl (by kernel_rfl) (by kernel_rfl) (by kernel_rfl) (fun _ _ _ h => h) (Or.inl ⟨by rfl, ?hybp5⟩) (by assumption) ?rybp5
         case hybp5 => intro w hSw; (try dsimp only at hSw); go_simp; (try with_reducible rfl)
         simp only [Act.put, List.getElem_toArray, List.getElem_cons_zero, List.getElem_cons_succ, List.setIfInBounds_toArray, List.set_cons_zero, List.set_cons_succ]; refine wpAnyH_take (i := 6) (v := ?vybp6) rfl (by kernel_rfl) (by kernel_rfl) (by kernel_rfl) (fun _ _ _ h => h) (Or.inl ⟨by rfl, ?hybp6⟩) (by assumption) ?rybp6
         case hybp6 => intro w hSw; (try dsimp only at hSw); go_simp; (try with_reducible rfl)
         simp only [Act.put, List.getElem_toArray, List.getElem_cons_zero, List.getElem_cons_succ, List.setIfInBounds_toArray, List.set_cons_zero, List.set_cons_succ]; refine wpAnyH_take (i := 7) (v := ?vybp7) rfl (by kernel_rfl) (by kernel_rfl) (by kernel_rfl) (fun _ _ _ h => h) (Or.inl ⟨by rfl, ?hybp7⟩) (by assumption) ?rybp7
         case hybp7 => intro w hSw; (try dsimp only at hSw); go_simp; (try with_reducible rfl)
         simp only [Act.put, List.getElem_toArray, List.getElem_cons_zero, List.getElem_cons_succ, List.setIfInBounds_toArray, List.set_cons_zero, List.set_cons_succ]; refine wpAnyH_ready (rs := [8]) (by kernel_rfl) (by simp) ?_
         refine AllReadyH.cons rfl (fun K2 hK2 => ?_) AllReadyH.nil
         go_simp; refine (HKC.out _ (Chg.refl _ _).drew).mono ?_
         rintro e w' ⟨rfl, hE'⟩; have hE3 : Ext wr w' := ((Chg.refl _ wr).drew).ext hE'; refine hK2.out _ _ (HS.out _ hE3) (fun hHeld2 => ?_)
         clear hK2 K2 hHeld hE'
         try simp only [Act.put, List.getElem_toArray, List.getElem_cons_zero, List.getElem_cons_succ, List.setIfInBounds_toArray, List.set_cons_zero, List.set_cons_succ]
         refine wpAnyH_take (i := 9) (v := ?vybp9) rfl (by kernel_rfl) (by kernel_rfl) (by kernel_rfl) (fun _ _ _ h => h) (Or.inl ⟨by rfl, ?hybp9⟩) (by assumption) ?rybp9
         case hybp9 => intro w hSw; (try dsimp only at hSw); go_simp; (try with_reducible rfl)
         simp only [Act.put, List.getElem_toArray, List.getElem_cons_zero, List.getElem_cons_succ, List.setIfInBounds_toArray, List.set_cons_zero, List.set_cons_succ]; refine wpAnyH_take (i := 10) (v := ?vybp10) rfl (by kernel_rfl) (by kernel_rfl) (by kernel_rfl) (fun _ _ _ h => h) (Or.inl ⟨by rfl, ?hybp10⟩) (by assumption) ?rybp10
         case hybp10 => intro w hSw; (try dsimp only at hSw); go_simp; (try with_reducible rfl)
         simp only [Act.put, List.getElem_toArray, List.getElem_cons_zero, List.getElem_cons_succ, List.setIfInBounds_toArray, List.set_cons_zero, List.set_cons_succ]; refine wpAnyH_take (i := 11) (v := ?vybp11) rfl (by kernel_rfl) (by kernel_rfl) (by kernel_rfl) (fun _ _ _ h => h) (Or.inl ⟨by rfl, ?hybp11⟩) (by assumption) ?rybp11
         case hybp11 => intro w hSw; (try dsimp only at hSw); go_simp; (try with_reducible rfl)
         simp only [Act.put, List.getElem_toArray, List.getElem_cons_zero, List.getElem_cons_succ, List.setIfInBounds_toArray, List.set_cons_zero, List.set_cons_succ]; refine wpAnyH_take (i := 12) (v := ?vybp12) rfl (by kernel_rfl) (by kernel_rfl) (by kernel_rfl) (fun _ _ _ h => h) (Or.inl ⟨by rfl, ?hybp12⟩) (by assumption) ?rybp12
         case hybp12 => intro w hSw; (try dsimp only at hSw); go_simp; (try with_reducible rfl)
         simp only [Act.put, List.getElem_toArray, List.getElem_cons_zero, List.getElem_cons_succ, List.setIfInBounds_toArray, List.set_cons_zero, List.set_cons_succ]; refine wpAnyH_take (i := 13) (v := ?vybp13) rfl (by kernel_rfl) (by kernel_rfl) (by kernel_rfl) (fun _ _ _ h => h) (Or.inl ⟨by rfl, ?hybp13⟩) (by assumption) ?rybp13
         case hybp13 => intro w hSw; (try dsimp only at hSw); go_simp; (try with_reducible rfl)
         simp only [Act.put, List.getElem_toArray, List.getElem_cons_zero, List.getElem_cons_succ, List.setIfInBounds_toArray, List.set_cons_zero, List.set_cons_succ]; refine wpAnyH_take (i := 14) (v := ?vybp14) rfl (by kernel_rfl) (by kernel_rfl) (by kernel_rfl) (fun _ _ _ h => h) (Or.inl ⟨by rfl, ?hybp14⟩) (by assumption) ?rybp14
         case hybp14 => intro w hSw; (try dsimp only at hSw); go_simp; (try with_reducible rfl)
         simp only [Act.put, List.getElem_toArray, List.getElem_cons_zero, List.getElem_cons_succ, List.setIfInBounds_toArray, List.set_cons_zero, List.set_cons_succ]; refine wpAnyH_take (i := 15) (v := ?vybp15) rfl (by kernel_rfl) (by kernel_rfl) (by kernel_rfl) (fun _ _ _ h => h) (Or.inl ⟨by rfl, ?hybp15⟩) (by assumption) ?rybp15
         case hybp15 => intro w hSw; (try dsimp only at hSw); go_simp; (try with_reducible rfl)
         simp only [Act.put, List.getElem_toArray, List.getElem_cons_zero, List.getElem_cons_succ, List.setIfInBounds_toArray, List.set_cons_zero, List.set_cons_succ]; refine wpAnyH_ready (rs := [16]) (by kernel_rfl) (by simp) ?_
         refine AllReadyH.cons rfl (fun K3 hK3 => ?_) AllReadyH.nil
         go_simp; refine (HIC.out _ hE3).mono ?_
         rintro e w'' ⟨rfl, hE4⟩; have hE5 : Ext wr w'' := hE3.ext hE4; refine hK3.out _ _ (HS.out _ hE5) (fun hHeld3 => ?_)
         clear hK3 K3 hHeld2 hE4
         try simp only [Act.put, List.getElem_toArray, List.getElem_cons_zero, List.getElem_cons_succ, List.setIfInBounds_toArray, List.set_cons_zero, List.set_cons_succ]
         refine wpAnyH_take (i := 17) (v := ?vybp17) rfl (by kernel_rfl) (by kernel_rfl) (by kernel_rfl) (fun _ _ _ h => h) (Or.inl ⟨by rfl, ?hybp17⟩) (by assumption) ?rybp17
         case hybp17 => intro w hSw; (try dsimp only at hSw); go_simp; (try with_reducible rfl)
         simp only [Act.put, List.getElem_toArray, List.getElem_cons_zero, List.getElem_cons_succ, List.setIfInBounds_toArray, List.set_cons_zero, List.set_cons_succ]; refine wpAnyH_take (i := 18) (v := ?vybp18) rfl (by kernel_rfl) (by kernel_rfl) (by kernel_rfl) (fun _ _ _ h => h) (Or.inl ⟨by rfl, ?hybp18⟩) (by assumption) ?rybp18
         case hybp18 => intro w hSw; (try dsimp only at hSw); go_simp; (try with_reducible rfl)
         simp only [Act.put, List.getElem_toArray, List.getElem_cons_zero, List.getElem_cons_succ, List.setIfInBounds_toArray, List.set_cons_zero, List.set_cons_succ]; refine wpAnyH_done (by kernel_rfl) ?_ _
         clear hHeld3; have HE9 := Z_ (HE.out.ext hE5); have HK9 := Z_ (HK.out.ext hE5); clear hE3 hE5 HE HK HS HKC HIC; cases I with
         | true =>
          go_wp2_with fail
          go_roundw
          case rel => exact ⟨q + 1, k1, by omega, by go_num, fun h _ => by rw [← HKD.out]; simp, Z_ (by have := HR3.out; simpa using this), HE9, HK9⟩
          case measure => simp [intOf]; omega
         | false =>
          go_wp2_with fail
          go_ret
          exact NO.out _ HE9.out (by rw [← HR3.out]; rfl)
       ·obtain rfl : q = N := by omega
        have hqd : decide ((q : Int) < (q : Int)) = false := by simp
        have hT : R = true := by have := hr.out; rw [List.drop_of_length_le (by rw [HN.out]; exact Nat.le_refl _), isL] at this; exact this.symm
        subst hT; clear hr hpv; go_wp2_with fail
        go_ret
        exact ⟨rfl, HE.out⟩

     ·have h19f : (k == 19) = false := by simpa using h19
      have hpre := HPRE.out; rw [if_neg h19] at hpre; have HE5 := HE4; have HK5 := HK4; have HK4x := HK4; by_cases hmm0 : 0 ≤ m
      ·have hmd0 : decide (m < 0) = false := by simpa using hmm0
       by_cases hmn : m ≤ num
       ·have hmd1 : decide (num < m) = false := by simpa using hmn
        have HL := Z_ (show R = isL k N l 0 0 by rw [hpre]; simp [hmm0, hmn]); clear hpre HPRE; go_wp2_with fail
        clear hq1 HK4x; go_loopw [10] (fun i wr => ∃ (q : Nat) (prev : Int), q ≤ N ∧ i = .int .i64 q ∧ Hid (∀ h : q - 1 < l.length, 0 < q → prev = l[q - 1].kd) ∧ Hid (isL k N (l.drop q) q prev = R) ∧ Hid (Ext w wr) ∧ Hid (Blk wr P #[.int .i64 k, .string t, .int .i64 m, .slice a N cc] 66)) (fun i _ => N - (intOf i).toNat)
        case atStart => exact ⟨0, 0, Nat.zero_le _, rfl, fun _ h => absurd h (by decide), HL.out.symm, HE5, HK5⟩
        clear HE5 HK5
        case round =>
         obtain ⟨q, prev, hq, rfl, hpv, hr, HE, HK⟩ := hrel; have hc := HK.out.cell; by_cases hlt : q < N
         ·have hql : q < l.length := by rw [HN.out]; exact hlt
          have hqi : (q : Int) < (N : Int) := by omega
          have hqd : decide ((q : Int) < (N : Int)) = true := by simpa using hqi
          obtain ⟨b, o, rfl, hb, u, hu, hus, hcl⟩ := HI.out wr HE.out q hql; obtain ⟨k1, t1, n1, a1, l1, c1, rfl⟩ := ng_form hu
          have hkd : l[q].kd = k1 := by
           have h9 := hu; generalize l[q] = z at h9 ⊢; obtain ⟨kz, tz, mz, lz⟩ := z; rw [ngAt_mk] at h9; obtain ⟨az, cz, e, -⟩ := h9; injection e with e
           injection e with e
           injection e with e _
           injection e with _ e
           exact e.symm
          have q0 : wr.cell? ⟨b, o + q * 4, none⟩ = some (.int .i64 k1) := (hcl 0 (by decide)).trans rfl; have q1 : wr.cell? ⟨b, o + q * 4 + 1, none⟩ = some (.string t1) := (hcl 1 (by decide)).trans rfl; have q2 : wr.cell? ⟨b, o + q * 4 + 2, none⟩ = some (.int .i64 n1) := (hcl 2 (by decide)).trans rfl; have q3 : wr.cell? ⟨b, o + q * 4 + 3, none⟩ = some (.slice a1 l1 c1) := (hcl 3 (by decide)).trans rfl
          have HPV : Hid (0 < q → ∃ b' o', (some ⟨b, o, none⟩ : Option Addr) = some ⟨b', o', none⟩ ∧ wr.cell? ⟨b', o' + (q - 1) * 4, none⟩ = some (.int .i64 prev)) := by
           intro h0; have hql1 : q - 1 < l.length := by omega
           obtain ⟨b', o', e, hb', u', hu', hus', hcl'⟩ := HI.out wr HE.out (q - 1) hql1; refine ⟨b', o', e, (hcl' 0 (by decide)).trans ?_⟩
           have hp9 := hpv.out hql1 h0; generalize l[q - 1] = z at hu' hp9; obtain ⟨kz, tz, mz, lz⟩ := z; rw [ngAt_mk] at hu'; obtain ⟨az, cz, rfl, -⟩ := hu'; rw [hp9]; rfl
          have HS : Hid (∀ u, Ext wr u → (fun u => Ext wr u ∧ (∀ i, u.cell? ⟨P, i, none⟩ = #[.int .i64 k, .string t, .int .i64 m, .slice (some ⟨b, o, none⟩) N cc][i]?) ∧ u.cell? ⟨b, o + q * 4, none⟩ = some (.int .i64 k1) ∧ u.cell? ⟨b, o + q * 4 + 1, none⟩ = some (.string t1) ∧ u.cell? ⟨b, o + q * 4 + 2, none⟩ = some (.int .i64 n1) ∧ u.cell? ⟨b, o + q * 4 + 3, none⟩ = some (.slice a1 l1 c1)) u) := by
           intro u hE; have hPl := HK.out.lt; exact ⟨hE, fun i => (hE.cell (p := ⟨P, i, none⟩) hPl id).trans (hc i), (hE.cell (p := ⟨b, o + q * 4, none⟩) hb id).trans q0, (hE.cell (p := ⟨b, o + q * 4 + 1, none⟩) hb id).trans q1, (hE.cell (p := ⟨b, o + q * 4 + 2, none⟩) hb id).trans q2, (hE.cell (p := ⟨b, o + q * 4 + 3, none⟩) hb id).trans q3⟩
          have HKC : Hid (∀ u, Ext wr u → Calls Tryz.prog 176 #[.agg #[.int .i64 k, .string t, .int .i64 m, .slice (some ⟨b, o, none⟩) N cc], .int .i64 (q : Nat), .int .i64 k1] u fun e w' => e = .returned (.bool (kfF k ((N : Int) - 1) q prev k1)) ∧ Ext u w') := by
           intro u hE; refine kinds_any k m t _ N cc q k1 prev u hNm hlt fun h0 => ?_
           obtain ⟨b', o', e, hx⟩ := HPV.out h0; exact ⟨b', o', e, (hE.cell (p := ⟨b', o' + (q - 1) * 4, none⟩) (World.block_lt_of_cell? wr _ hx) id).trans hx⟩
          have HIC := Z_ (fun (u : World) (hE : Ext wr u) => HIH.out l[q] (List.getElem_mem hql) _ u (ngAt_keeps (ng_keep hE) _ _ hu)); have hr2 := hr.out; rw [isL_drop hql, hkd] at hr2; obtain ⟨K, hK⟩ : ∃ K, kfF k ((N : Int) - 1) q prev k1 = K := ⟨_, rfl⟩; obtain ⟨I, hI⟩ : ∃ I, isF l[q] = I := ⟨_, rfl⟩; rw [hK, hI] at hr2; rw [hK] at HKC; rw [hI] at HIC; have HR3 := Z_ hr2; have HKD := Z_ hkd; clear hr hr2 hcl hu hK hI hkd HPV hpv hus; cases K with
          | false =>
           go_wp2_with fail
           clear q0 q1 q2 q3 hc; refine wp_region_held_drew (S := (fun u => Ext wr u ∧ (∀ i, u.cell? ⟨P, i, none⟩ = #[.int .i64 k, .string t, .int .i64 m, .slice (some ⟨b, o, none⟩) N cc][i]?) ∧ u.cell? ⟨b, o + q * 4, none⟩ = some (.int .i64 k1) ∧ u.cell? ⟨b, o + q * 4 + 1, none⟩ = some (.string t1) ∧ u.cell? ⟨b, o + q * 4 + 2, none⟩ = some (.int .i64 n1) ∧ u.cell? ⟨b, o + q * 4 + 3, none⟩ = some (.slice a1 l1 c1))) (by kernel_rfl) (HS.out _ (Chg.refl _ _).drew) (fun hHeld => ?_)
           refine wpAnyH_take (i := 0) (v := ?vzbq0) rfl (by kernel_rfl) (by kernel_rfl) (by kernel_rfl) (fun _ _ _ h => h) (Or.inl ⟨by rfl, ?hzbq0⟩) (by assumption) ?rzbq0
           case hzbq0 => intro w hSw; (try dsimp only at hSw); go_simp; (try with_reducible rfl)
           simp only [Act.put, List.getElem_toArray, List.getElem_cons_zero, List.setIfInBounds_toArray, List.set_cons_zero, List.set_cons_succ]; refine wpAnyH_take (i := 1) (v := ?vzbq1) rfl (by kernel_rfl) (by kernel_rfl) (by kernel_rfl) (fun _ _ _ h => h) (Or.inl ⟨by rfl, ?hzbq1⟩) (by assumption) ?rzbq1
           case hzbq1 => intro w hSw; (try dsimp only at hSw); go_simp; (try with_reducible rfl)
           simp only [Act.put, List.getElem_toArray, List.getElem_cons_zero, List.getElem_cons_succ, List.setIfInBounds_toArray, List.set_cons_zero, List.set_cons_succ]; refine wpAnyH_take (i := 2) (v := ?vzbq2) rfl (by kernel_rfl) (by kernel_rfl) (by kernel_rfl) (fun _ _ _ h => h) (Or.inl ⟨by rfl, ?hzbq2⟩) (by assumption) ?rzbq2
           case hzbq2 => intro w hSw; (try dsimp only at hSw); go_simp; (try with_reducible rfl)
           simp only [Act.put, List.getElem_toArray, List.getElem_cons_zero, List.getElem_cons_succ, List.setIfInBounds_toArray, List.set_cons_zero, List.set_cons_succ]; refine wpAnyH_take (i := 3) (v := ?vzbq3) rfl (by kernel_rfl) (by kernel_rfl) (by kernel_rfl) (fun _ _ _ h => h) (Or.inl ⟨by rfl, ?hzbq3⟩) (by assumption) ?rzbq3
           case hzbq3 => intro w hSw; (try dsimp only at hSw); go_simp; (try with_reducible rfl)
           simp only [Act.put, List.getElem_toArray, List.getElem_cons_zero, List.getElem_cons_succ, List.setIfInBounds_toArray, List.set_cons_zero, List.set_cons_succ]; refine wpAnyH_take (i := 4) (v := ?vzbq4) rfl (by kernel_rfl) (by kernel_rfl) (by kernel_rfl) (fun _ _ _ h => h) (Or.inl ⟨by rfl, ?hzbq4⟩) (by assumption) ?rzbq4
           case hzbq4 => intro w hSw; (try dsimp only at hSw); go_simp; (try with_reducible rfl)
           simp only [Act.put, List.getElem_toArray, List.getElem_cons_zero, List.getElem_cons_succ, List.setIfInBounds_toArray, List.set_cons_zero, List.set_cons_succ]; refine wpAnyH_take (i := 5) (v := ?vzbq5) rfl (by kernel_rfl) (by kernel_rfl) (by kernel_rfl) (fun _ _ _ h => h) (Or.inl ⟨by rfl, ?hzbq5⟩) (by assumption) ?rzbq5
           case hzbq5 => intro w hSw; (try dsimp only at hSw); go_simp; (try with_reducible rfl)
           simp only [Act.put, List.getElem_toArray, List.getElem_cons_zero, List.getElem_cons_succ, List.setIfInBounds_toArray, List.set_cons_zero, List.set_cons_succ]; refine wpAnyH_take (i := 6) (v := ?vzbq6) rfl (by kernel_rfl) (by kernel_rfl) (by kernel_rfl) (fun _ _ _ h => h) (Or.inl ⟨by rfl, ?hzbq6⟩) (by assumption) ?rzbq6
           case hzbq6 => intro w hSw; (try dsimp only at hSw); go_simp; (try with_reducible rfl)
           simp only [Act.put, List.getElem_toArray, List.getElem_cons_zero, List.getElem_cons_succ, List.setIfInBounds_toArray, List.set_cons_zero, List.set_cons_succ]; refine wpAnyH_take (i := 7) (v := ?vzbq7) rfl (by kernel_rfl) (by kernel_rfl) (by kernel_rfl) (fun _ _ _ h => h) (Or.inl ⟨by rfl, ?hzbq7⟩) (by assumption) ?rzbq7
           case hzbq7 => intro w hSw; (try dsimp only at hSw); go_simp; (try with_reducible rfl)
           simp only [Act.put, List.getElem_toArray, List.getElem_cons_zero, List.getElem_cons_succ, List.setIfInBounds_toArray, List.set_cons_zero, List.set_cons_succ]; refine wpAnyH_ready (rs := [8]) (by kernel_rfl) (by simp) ?_
           refine AllReadyH.cons rfl (fun K2 hK2 => ?_) AllReadyH.nil
           go_simp; refine (HKC.out _ (Chg.refl _ _).drew).mono ?_
           rintro e w' ⟨rfl, hE'⟩; have hEw : Ext wr w' := ((Chg.refl _ wr).drew).ext hE'; refine hK2.out _ _ (HS.out _ hEw) (fun hHeld2 => ?_)
           clear hK2 K2 hHeld hE'
           try simp only [Act.put, List.getElem_toArray, List.getElem_cons_zero, List.getElem_cons_succ, List.setIfInBounds_toArray, List.set_cons_zero, List.set_cons_succ]
           refine wpAnyH_take (i := 9) (v := ?vzbq9) rfl (by kernel_rfl) (by kernel_rfl) (by kernel_rfl) (fun _ _ _ h => h) (Or.inl ⟨by rfl, ?hzbq9⟩) (by assumption) ?rzbq9
           case hzbq9 => intro w hSw; (try dsimp only at hSw); go_simp; (try with_reducible rfl)
           simp only [Act.put, List.getElem_toArray, List.getElem_cons_zero, List.getElem_cons_succ, List.setIfInBounds_toArray, List.set_cons_zero, List.set_cons_succ]; refine wpAnyH_take (i := 10) (v := ?vzbq10) rfl (by kernel_rfl) (by kernel_rfl) (by kernel_rfl) (fun _ _ _ h => h) (Or.inl ⟨by rfl, ?hzbq10⟩) (by assumption) ?rzbq10
           case hzbq10 => intro w hSw; (try dsimp only at hSw); go_simp; (try with_reducible rfl)
           simp only [Act.put, List.getElem_toArray, List.getElem_cons_zero, List.getElem_cons_succ, List.setIfInBounds_toArray, List.set_cons_zero, List.set_cons_succ]; refine wpAnyH_take (i := 11) (v := undef) rfl (by kernel_rfl) (by kernel_rfl) (by kernel_rfl) (fun _ _ _ h => h) (Or.inr ⟨by rfl, rfl⟩) (by assumption) ?_
           simp only [Act.put, List.getElem_toArray, List.getElem_cons_zero, List.getElem_cons_succ, List.setIfInBounds_toArray, List.set_cons_zero, List.set_cons_succ]; refine wpAnyH_take (i := 12) (v := undef) rfl (by kernel_rfl) (by kernel_rfl) (by kernel_rfl) (fun _ _ _ h => h) (Or.inr ⟨by rfl, rfl⟩) (by assumption) ?_
           simp only [Act.put, List.getElem_toArray, List.getElem_cons_zero, List.getElem_cons_succ, List.setIfInBounds_toArray, List.set_cons_zero, List.set_cons_succ]; refine wpAnyH_take (i := 13) (v := undef) rfl (by kernel_rfl) (by kernel_rfl) (by kernel_rfl) (fun _ _ _ h => h) (Or.inr ⟨by rfl, rfl⟩) (by assumption) ?_
           simp only [Act.put, List.getElem_toArray, List.getElem_cons_zero, List.getElem_cons_succ, List.setIfInBounds_toArray, List.set_cons_zero, List.set_cons_succ]; refine wpAnyH_take (i := 14) (v := undef) rfl (by kernel_rfl) (by kernel_rfl) (by kernel_rfl) (fun _ _ _ h => h) (Or.inr ⟨by rfl, rfl⟩) (by assumption) ?_
           simp only [Act.put, List.getElem_toArray, List.getElem_cons_zero, List.getElem_cons_succ, List.setIfInBounds_toArray, List.set_cons_zero, List.set_cons_succ]; refine wpAnyH_take (i := 15) (v := undef) rfl (by kernel_rfl) (by kernel_rfl) (by kernel_rfl) (fun _ _ _ h => h) (Or.inr ⟨by rfl, rfl⟩) (by assumption) ?_
           simp only [Act.put, List.getElem_toArray, List.getElem_cons_zero, List.getElem_cons_succ, List.setIfInBounds_toArray, List.set_cons_zero, List.set_cons_succ]; refine wpAnyH_take (i := 16) (v := undef) rfl (by kernel_rfl) (by kernel_rfl) (by kernel_rfl) (fun _ _ _ h => h) (Or.inr ⟨by rfl, rfl⟩) (by assumption) ?_
           simp only [Act.put, List.getElem_toArray, List.getElem_cons_zero, List.getElem_cons_succ, List.setIfInBounds_toArray, List.set_cons_zero, List.set_cons_succ]; refine wpAnyH_take (i := 17) (v := undef) rfl (by kernel_rfl) (by kernel_rfl) (by kernel_rfl) (fun _ _ _ h => h) (Or.inr ⟨by rfl, rfl⟩) (by assumption) ?_
           simp only [Act.put, List.getElem_toArray, List.getElem_cons_zero, List.getElem_cons_succ, List.setIfInBounds_toArray, List.set_cons_zero, List.set_cons_succ]; refine wpAnyH_take (i := 18) (v := ?vzbq18) rfl (by kernel_rfl) (by kernel_rfl) (by kernel_rfl) (fun _ _ _ h => h) (Or.inl ⟨by rfl, ?hzbq18⟩) (by assumption) ?rzbq18
           case hzbq18 => intro w hSw; (try dsimp only at hSw); go_simp; (try with_reducible rfl)
           simp only [Act.put, List.getElem_toArray, List.getElem_cons_zero, List.getElem_cons_succ, List.setIfInBounds_toArray, List.set_cons_zero, List.set_cons_succ]; refine wpAnyH_done (by kernel_rfl) ?_ _
           have hEnd := hHeld2.1; clear hHeld2; go_wp2_with fail
           go_ret
           exact NO.out _ (HE.out.ext hEw) (by rw [← HR3.out]; rfl)
          | true =>
           go_wp2_with fail
           clear q0 q1 q2 q3 hc; refine wp_region_held_drew (S := (fun u => Ext wr u ∧ (∀ i, u.cell? ⟨P, i, none⟩ = #[.int .i64 k, .string t, .int .i64 m, .slice (some ⟨b, o, none⟩) N cc][i]?) ∧ u.cell? ⟨b, o + q * 4, none⟩ = some (.int .i64 k1) ∧ u.cell? ⟨b, o + q * 4 + 1, none⟩ = some (.string t1) ∧ u.cell? ⟨b, o + q * 4 + 2, none⟩ = some (.int .i64 n1) ∧ u.cell? ⟨b, o + q * 4 + 3, none⟩ = some (.slice a1 l1 c1))) (by kernel_rfl) (HS.out _ (Chg.refl _ _).drew) (fun hHeld => ?_)
           refine wpAnyH_take (i := 0) (v := ?vybq0) rfl (by kernel_rfl) (by kernel_rfl) (by kernel_rfl) (fun _ _ _ h => h) (Or.inl ⟨by rfl, ?hybq0⟩) (by assumption) ?rybq0
           case hybq0 => intro w hSw; (try dsimp only at hSw); go_simp; (try with_reducible rfl)
           simp only [Act.put, List.getElem_toArray, List.getElem_cons_zero, List.setIfInBounds_toArray, List.set_cons_zero, List.set_cons_succ]; refine wpAnyH_take (i := 1) (v := ?vybq1) rfl (by kernel_rfl) (by kernel_rfl) (by kernel_rfl) (fun _ _ _ h => h) (Or.inl ⟨by rfl, ?hybq1⟩) (by assumption) ?rybq1
           case hybq1 => intro w hSw; (try dsimp only at hSw); go_simp; (try with_reducible rfl)
           simp only [Act.put, List.getElem_toArray, List.getElem_cons_zero, List.getElem_cons_succ, List.setIfInBounds_toArray, List.set_cons_zero, List.set_cons_succ]; refine wpAnyH_take (i := 2) (v := ?vybq2) rfl (by kernel_rfl) (by kernel_rfl) (by kernel_rfl) (fun _ _ _ h => h) (Or.inl ⟨by rfl, ?hybq2⟩) (by assumption) ?rybq2
           case hybq2 => intro w hSw; (try dsimp only at hSw); go_simp; (try with_reducible rfl)
           simp only [Act.put, List.getElem_toArray, List.getElem_cons_zero, List.getElem_cons_succ, List.setIfInBounds_toArray, List.set_cons_zero, List.set_cons_succ]; refine wpAnyH_take (i := 3) (v := ?vybq3) rfl (by kernel_rfl) (by kernel_rfl) (by kernel_rfl) (fun _ _ _ h => h) (Or.inl ⟨by rfl, ?hybq3⟩) (by assumption) ?rybq3
           case hybq3 => intro w hSw; (try dsimp only at hSw); go_simp; (try with_reducible rfl)
           simp only [Act.put, List.getElem_toArray, List.getElem_cons_zero, List.getElem_cons_succ, List.setIfInBounds_toArray, List.set_cons_zero, List.set_cons_succ]; refine wpAnyH_take (i := 4) (v := ?vybq4) rfl (by kernel_rfl) (by kernel_rfl) (by kernel_rfl) (fun _ _ _ h => h) (Or.inl ⟨by rfl, ?hybq4⟩) (by assumption) ?rybq4
           case hybq4 => intro w hSw; (try dsimp only at hSw); go_simp; (try with_reducible rfl)
           simp only [Act.put, List.getElem_toArray, List.getElem_cons_zero, List.getElem_cons_succ, List.setIfInBounds_toArray, List.set_cons_zero, List.set_cons_succ]; refine wpAnyH_take (i := 5) (v := ?vybq5) rfl (by kernel_rfl) (by kernel_rfl) (by kernel_rfl) (fun _ _ _ h => h) (Or.inl ⟨by rfl, ?hybq5⟩) (by assumption) ?rybq5
           case hybq5 => intro w hSw; (try dsimp only at hSw); go_simp; (try with_reducible rfl)
           simp only [Act.put, List.getElem_toArray, List.getElem_cons_zero, List.getElem_cons_succ, List.setIfInBounds_toArray, List.set_cons_zero, List.set_cons_succ]; refine wpAnyH_take (i := 6) (v := ?vybq6) rfl (by kernel_rfl) (by kernel_rfl) (by kernel_rfl) (fun _ _ _ h => h) (Or.inl ⟨by rfl, ?hybq6⟩) (by assumption) ?rybq6
           case hybq6 => intro w hSw; (try dsimp only at hSw); go_simp; (try with_reducible rfl)
           simp only [Act.put, List.getElem_toArray, List.getElem_cons_zero, List.getElem_cons_succ, List.setIfInBounds_toArray, List.set_cons_zero, List.set_cons_succ]; refine wpAnyH_take (i := 7) (v := ?vybq7) rfl (by kernel_rfl) (by kernel_rfl) (by kernel_rfl) (fun _ _ _ h => h) (Or.inl ⟨by rfl, ?hybq7⟩) (by assumption) ?rybq7
           case hybq7 => intro w hSw; (try dsimp only at hSw); go_simp; (try with_reducible rfl)
           simp only [Act.put, List.getElem_toArray, List.getElem_cons_zero, List.getElem_cons_succ, List.setIfInBounds_toArray, List.set_cons_zero, List.set_cons_succ]; refine wpAnyH_ready (rs := [8]) (by kernel_rfl) (by simp) ?_
           refine AllReadyH.cons rfl (fun K2 hK2 => ?_) AllReadyH.nil
           go_simp; refine (HKC.out _ (Chg.refl _ _).drew).mono ?_
           rintro e w' ⟨rfl, hE'⟩; have hE3 : Ext wr w' := ((Chg.refl _ wr).drew).ext hE'; refine hK2.out _ _ (HS.out _ hE3) (fun hHeld2 => ?_)
           clear hK2 K2 hHeld hE'
           try simp only [Act.put, List.getElem_toArray, List.getElem_cons_zero, List.getElem_cons_succ, List.setIfInBounds_toArray, List.set_cons_zero, List.set_cons_succ]
           refine wpAnyH_take (i := 9) (v := ?vybq9) rfl (by kernel_rfl) (by kernel_rfl) (by kernel_rfl) (fun _ _ _ h => h) (Or.inl ⟨by rfl, ?hybq9⟩) (by assumption) ?rybq9
           case hybq9 => intro w hSw; (try dsimp only at hSw); go_simp; (try with_reducible rfl)
           simp only [Act.put, List.getElem_toArray, List.getElem_cons_zero, List.getElem_cons_succ, List.setIfInBounds_toArray, List.set_cons_zero, List.set_cons_succ]; refine wpAnyH_take (i := 10) (v := ?vybq10) rfl (by kernel_rfl) (by kernel_rfl) (by kernel_rfl) (fun _ _ _ h => h) (Or.inl ⟨by rfl, ?hybq10⟩) (by assumption) ?rybq10
           case hybq10 => intro w hSw; (try dsimp only at hSw); go_simp; (try with_reducible rfl)
           simp only [Act.put, List.getElem_toArray, List.getElem_cons_zero, List.getElem_cons_succ, List.setIfInBounds_toArray, List.set_cons_zero, List.set_cons_succ]; refine wpAnyH_take (i := 11) (v := ?vybq11) rfl (by kernel_rfl) (by kernel_rfl) (by kernel_rfl) (fun _ _ _ h => h) (Or.inl ⟨by rfl, ?hybq11⟩) (by assumption) ?rybq11
           case hybq11 => intro w hSw; (try dsimp only at hSw); go_simp; (try with_reducible rfl)
           simp only [Act.put, List.getElem_toArray, List.getElem_cons_zero, List.getElem_cons_succ, List.setIfInBounds_toArray, List.set_cons_zero, List.set_cons_succ]; refine wpAnyH_take (i := 12) (v := ?vybq12) rfl (by kernel_rfl) (by kernel_rfl) (by kernel_rfl) (fun _ _ _ h => h) (Or.inl ⟨by rfl, ?hybq12⟩) (by assumption) ?rybq12
           case hybq12 => intro w hSw; (try dsimp only at hSw); go_simp; (try with_reducible rfl)
           simp only [Act.put, List.getElem_toArray, List.getElem_cons_zero, List.getElem_cons_succ, List.setIfInBounds_toArray, List.set_cons_zero, List.set_cons_succ]; refine wpAnyH_take (i := 13) (v := ?vybq13) rfl (by kernel_rfl) (by kernel_rfl) (by kernel_rfl) (fun _ _ _ h => h) (Or.inl ⟨by rfl, ?hybq13⟩) (by assumption) ?rybq13
           case hybq13 => intro w hSw; (try dsimp only at hSw); go_simp; (try with_reducible rfl)
           simp only [Act.put, List.getElem_toArray, List.getElem_cons_zero, List.getElem_cons_succ, List.setIfInBounds_toArray, List.set_cons_zero, List.set_cons_succ]; refine wpAnyH_take (i := 14) (v := ?vybq14) rfl (by kernel_rfl) (by kernel_rfl) (by kernel_rfl) (fun _ _ _ h => h) (Or.inl ⟨by rfl, ?hybq14⟩) (by assumption) ?rybq14
           case hybq14 => intro w hSw; (try dsimp only at hSw); go_simp; (try with_reducible rfl)
           simp only [Act.put, List.getElem_toArray, List.getElem_cons_zero, List.getElem_cons_succ, List.setIfInBounds_toArray, List.set_cons_zero, List.set_cons_succ]; refine wpAnyH_take (i := 15) (v := ?vybq15) rfl (by kernel_rfl) (by kernel_rfl) (by kernel_rfl) (fun _ _ _ h => h) (Or.inl ⟨by rfl, ?hybq15⟩) (by assumption) ?rybq15
           case hybq15 => intro w hSw; (try dsimp only at hSw); go_simp; (try with_reducible rfl)
           simp only [Act.put, List.getElem_toArray, List.getElem_cons_zero, List.getElem_cons_succ, List.setIfInBounds_toArray, List.set_cons_zero, List.set_cons_succ]; refine wpAnyH_ready (rs := [16]) (by kernel_rfl) (by simp) ?_
           refine AllReadyH.cons rfl (fun K3 hK3 => ?_) AllReadyH.nil
           go_simp; refine (HIC.out _ hE3).mono ?_
           rintro e w'' ⟨rfl, hE4⟩; have hE5 : Ext wr w'' := hE3.ext hE4; refine hK3.out _ _ (HS.out _ hE5) (fun hHeld3 => ?_)
           clear hK3 K3 hHeld2 hE4
           try simp only [Act.put, List.getElem_toArray, List.getElem_cons_zero, List.getElem_cons_succ, List.setIfInBounds_toArray, List.set_cons_zero, List.set_cons_succ]
           refine wpAnyH_take (i := 17) (v := ?vybq17) rfl (by kernel_rfl) (by kernel_rfl) (by kernel_rfl) (fun _ _ _ h => h) (Or.inl ⟨by rfl, ?hybq17⟩) (by assumption) ?rybq17
           case hybq17 => intro w hSw; (try dsimp only at hSw); go_simp; (try with_reducible rfl)
           simp only [Act.put, List.getElem_toArray, List.getElem_cons_zero, List.getElem_cons_succ, List.setIfInBounds_toArray, List.set_cons_zero, List.set_cons_succ]; refine wpAnyH_take (i := 18) (v := ?vybq18) rfl (by kernel_rfl) (by kernel_rfl) (by kernel_rfl) (fun _ _ _ h => h) (Or.inl ⟨by rfl, ?hybq18⟩) (by assumption) ?rybq18
           case hybq18 => intro w hSw; (try dsimp only at hSw); go_simp; (try with_reducible rfl)
           simp only [Act.put, List.getElem_toArray, List.getElem_cons_zero, List.getElem_cons_succ, List.setIfInBounds_toArray, List.set_cons_zero, List.set_cons_succ]; refine wpAnyH_done (by kernel_rfl) ?_ _
           clear hHeld3; have HE9 := Z_ (HE.out.ext hE5); have HK9 := Z_ (HK.out.ext hE5); clear hE3 hE5 HE HK HS HKC HIC; cases I with
           | true =>
            go_wp2_with fail
            go_roundw
            case rel => exact ⟨q + 1, k1, by omega, by go_num, fun h _ => by rw [← HKD.out]; simp, Z_ (by have := HR3.out; simpa using this), HE9, HK9⟩
            case measure => simp [intOf]; omega
           | false =>
            go_wp2_with fail
            go_ret
            exact NO.out _ HE9.out (by rw [← HR3.out]; rfl)
         ·obtain rfl : q = N := by omega
          have hqd : decide ((q : Int) < (q : Int)) = false := by simp
          have hT : R = true := by have := hr.out; rw [List.drop_of_length_le (by rw [HN.out]; exact Nat.le_refl _), isL] at this; exact this.symm
          subst hT; clear hr hpv; go_wp2_with fail
          go_ret
          exact ⟨rfl, HE.out⟩

       ·have hmd1 : decide (num < m) = true := by simpa using hmn
        clear HPRE; go_wp2_with fail
        go_ret
        exact NO.out _ HE4.out (by rw [hpre, show decide (m ≤ num) = false by simpa using hmn]; simp)
      ·have hmd0 : decide (m < 0) = true := by simpa using hmm0
       clear HPRE; go_wp2_with fail
       go_ret
       exact NO.out _ HE4.out (by rw [hpre, show decide (0 ≤ m) = false by simpa using hmm0]; simp)
   ·have hm0 : 0 ≤ most := by omega
    have hm1 : decide (0 ≤ most) = true := by simpa using hm0
    have hm2 : decide (most < (N : Int)) = true := by simp; omega
    go_wp2_with fail
    go_ret
    exact NO.out _ HE2.out (by rw [← HR.out]; have h9 : (decide (most < 0) || decide ((N : Int) ≤ most)) = false := by { simp; omega }; rw [h9]; simp)
  ·have hld : decide ((N : Int) < least) = true := by simp; omega
   go_wp2_with fail
   go_ret
   exact NO.out _ HE2.out (by rw [← HR.out]; have : decide (least ≤ (N : Int)) = false := by { simp; omega }; rw [this]; simp)
end rpr
end Go.Proofs.YtpcihajmcejliabGreatDoor
