/- The walk of the reference's Same: an object is the same as itself, wherever it lies. -/
import Derived.Test.YtpcihajmcejliaaGreatDoorObjRO
import Derived.Test.YtpcihajmcejliaaGreatDoorFaceR
import Derived.Deep.RegionHeld3
namespace Go.Proofs.YtpcihajmcejliaaGreatDoor
open Go.RowKit
namespace objSame
theorem ext_of {C : Prop} {w w' : World} (h : Ext w w' ∧ C) : Ext w w' := h.1
set_option maxRecDepth 100000 in
set_option maxHeartbeats 8000000 in
theorem list_any (l : List FPlc) (a b : Option Addr) (n c d : Nat) (w : World) (hn : l.length = n) (hmax : n ≤ 1048576) (ha : AllIn 2 PlcIn w a l) (hb : AllIn 2 PlcIn w b l) :
    Calls Tryz.prog 59 #[.slice a n c, .slice b n d] w fun e w' => e = .returned (.bool true) ∧ Ext w w' := by
  have HN := Lib.hid hn
  have HA := Lib.hid ha
  have HB := Lib.hid hb
  clear hn ha hb
  go_enter Tryz.func59, Tryz.ntmps59
  go_wp2_with fail
  go_loopw [5] (fun i wr => ∃ k : Nat, k ≤ n ∧ i = .int .i64 k ∧ Ext w wr) (fun i _ => n - (intOf i).toNat)
  case atStart => exact ⟨0, Nat.zero_le _, rfl, Chg.refl _ _⟩
  case round =>
    obtain ⟨k, hk, rfl, hE⟩ := hrel
    by_cases hlt : k < n
    · have hki : (k : Int) < (n : Int) := by omega
      have hlk : k < l.length := by rw [HN.out]; exact hlt
      obtain ⟨b1, o1, rfl, hb1, c1⟩ := HA.out k hlk
      obtain ⟨b2, o2, rfl, hb2, c2⟩ := HB.out k hlk
      have hb1' := Nat.lt_of_lt_of_le hb1 hE.size
      have hb2' := Nat.lt_of_lt_of_le hb2 hE.size
      obtain ⟨l0, l1, -, -⟩ := PlcIn.ext hE hb1 c1
      obtain ⟨m0, m1, -, -⟩ := PlcIn.ext hE hb2 c2
      clear c1 c2
      generalize l[k] = y at *
      obtain ⟨yn, ya⟩ := y
      simp only at l0 l1 m0 m1
      go_wp2_with fail
      go_quiet (fail)
      go_wp2_with fail
      go_roundw
      case rel => exact ⟨k + 1, by omega, by go_num, hE.drewN _⟩
      case measure => simp [intOf]; omega
    · obtain rfl : k = n := by omega
      go_wp2_with fail
      go_ret
      exact ⟨rfl, hE⟩
set_option maxRecDepth 100000 in
set_option maxHeartbeats 16000000 in
theorem same_any (x : FObj) (v u : Value) (w : World) (hx : ObjAt w x v) (hy : ObjAt w x u) (hli : x.imports.length ≤ 1048576) (hlc : x.code.length ≤ 1048576) (hlr : x.relocs.length ≤ 1048576) (hlp : x.procs.length ≤ 1048576) (hll : x.lows.length ≤ 1048576) (hlh : x.highs.length ≤ 1048576) :
    Calls Tryz.prog 17 #[v, u] w fun e w' => e = .returned (.bool true) ∧ Ext w w' := by
  obtain ⟨aa, am, ac, ad, ai, aj, ae, af, ar, az, ap, aq, al, ak, ah, ag, rfl, aF, a1, a2, a3, a4, a5, a6⟩ := hx.ex
  obtain ⟨ba, bm, bc, bd, bi, bj, be, bf, br, bz, bp, bq, bl, bk, bh, bg, rfl, bF, b1, b2, b3, b4, b5, b6⟩ := hy.ex
  clear hx hy
  have hsf := fun (u : World) (hE : Ext w u) => rface.same_any x.face x.face _ _ u (FaceAt.ext hE aF) (FaceAt.ext hE bF)
  have hdf : decide (x.face = x.face) = true := decide_eq_true rfl
  rw [hdf] at hsf
  have hpp := fun (u : World) (hE : Ext w u) => list_any x.procs ap bp _ aq bq u rfl hlp (obj.plc_all a4 hE) (obj.plc_all b4 hE)
  have hpl := fun (u : World) (hE : Ext w u) => list_any x.lows al bl _ ak bk u rfl hll (obj.plc_all a5 hE) (obj.plc_all b5 hE)
  have hph := fun (u : World) (hE : Ext w u) => list_any x.highs ah bh _ ag bg u rfl hlh (obj.plc_all a6 hE) (obj.plc_all b6 hE)
  clear hlp hll hlh a4 b4 a5 b5 a6 b6 aF bF hdf
  obtain ⟨xf, xi, xc, xr, op, ol, oh, lo, hi, lf, hf⟩ := x
  simp only at *
  obtain ⟨n1, hn1⟩ : ∃ n, xf.vars.length = n := ⟨_, rfl⟩
  obtain ⟨n2, hn2⟩ : ∃ n, xf.procs.length = n := ⟨_, rfl⟩
  obtain ⟨xn, hxn⟩ : ∃ n, xf.modn = n := ⟨_, rfl⟩
  obtain ⟨ni, hni⟩ : ∃ n, xi.length = n := ⟨_, rfl⟩
  obtain ⟨nc, hnc⟩ : ∃ n, xc.length = n := ⟨_, rfl⟩
  obtain ⟨nr, hnr⟩ : ∃ n, xr.length = n := ⟨_, rfl⟩
  obtain ⟨np, hnp⟩ : ∃ n, op.length = n := ⟨_, rfl⟩
  obtain ⟨nl, hnl⟩ : ∃ n, ol.length = n := ⟨_, rfl⟩
  obtain ⟨nh, hnh⟩ : ∃ n, oh.length = n := ⟨_, rfl⟩
  rw [hn1, hn2, hxn] at hsf
  rw [hnp] at hpp
  rw [hnl] at hpl
  rw [hnh] at hph
  rw [hni] at hli
  rw [hnc] at hlc
  rw [hnr] at hlr
  rw [hn1, hn2, hxn, hni, hnc, hnr, hnp, hnl, hnh]
  have HSF := Lib.hid hsf
  have HPP := Lib.hid hpp
  have HPL := Lib.hid hpl
  have HPH := Lib.hid hph
  have HNI := Lib.hid hni
  have HNC := Lib.hid hnc
  have HNR := Lib.hid hnr
  have HIM := Lib.hid (And.intro a1 b1)
  have HCO := Lib.hid (And.intro a2 b2)
  have HRE := Lib.hid (And.intro a3 b3)
  clear hn1 hn2 hxn hni hnc hnr hnp hnl hnh hsf hpp hpl hph a1 b1 a2 b2 a3 b3
  have hX0 := Blk.alloc (Blk.made w #[.string xn, .slice aa n1 am, .slice ac n2 ad, .slice ai ni aj, .slice ae nc af, .slice ar nr az, .slice ap np aq, .slice al nl ak, .slice ah nh ag, .int .i64 lo, .int .i64 hi, .int .i64 lf, .int .i64 hf] 31) (.cells #[.string xn, .slice ba n1 bm, .slice bc n2 bd, .slice bi ni bj, .slice be nc bf, .slice br nr bz, .slice bp np bq, .slice bl nl bk, .slice bh nh bg, .int .i64 lo, .int .i64 hi, .int .i64 lf, .int .i64 hf] 31)
  have hY0 := Blk.made2 w (.cells #[.string xn, .slice aa n1 am, .slice ac n2 ad, .slice ai ni aj, .slice ae nc af, .slice ar nr az, .slice ap np aq, .slice al nl ak, .slice ah nh ag, .int .i64 lo, .int .i64 hi, .int .i64 lf, .int .i64 hf] 31) #[.string xn, .slice ba n1 bm, .slice bc n2 bd, .slice bi ni bj, .slice be nc bf, .slice br nr bz, .slice bp np bq, .slice bl nl bk, .slice bh nh bg, .int .i64 lo, .int .i64 hi, .int .i64 lf, .int .i64 hf] 31
  have hE0 : Ext w ((w.alloc (.cells #[.string xn, .slice aa n1 am, .slice ac n2 ad, .slice ai ni aj, .slice ae nc af, .slice ar nr az, .slice ap np aq, .slice al nl ak, .slice ah nh ag, .int .i64 lo, .int .i64 hi, .int .i64 lf, .int .i64 hf] 31)).alloc (.cells #[.string xn, .slice ba n1 bm, .slice bc n2 bd, .slice bi ni bj, .slice be nc bf, .slice br nr bz, .slice bp np bq, .slice bl nl bk, .slice bh nh bg, .int .i64 lo, .int .i64 hi, .int .i64 lf, .int .i64 hf] 31)) := ((Chg.refl _ _).alloc _).alloc _
  have hxc := hX0.cell
  have hxf := hX0.frozen
  have hxl := hX0.lt
  have hyc := hY0.cell
  have hyf := hY0.frozen
  have hyl := hY0.lt
  go_enter Tryz.func17, Tryz.ntmps17
  go_wp2_with fail
  refine (HSF.out _ hE0).mono ?_
  rintro e w0 ⟨rfl, hE⟩
  clear hxc hxf hxl hyc hyf hyl
  have hX1 := hX0.ext hE
  have hY1 := hY0.ext hE
  have hE1 := hE0.ext hE
  clear hX0 hY0 hE0 hE HSF
  have hxc := hX1.cell
  have hxf := hX1.frozen
  have hxl := hX1.lt
  have hyc := hY1.cell
  have hyf := hY1.frozen
  have hyl := hY1.lt
  go_wp2_with fail
  clear hxc hxf hxl hyc hyf hyl
  have HX0 := Lib.hid hX1
  have HY0 := Lib.hid hY1
  clear hX1 hY1
  go_loopw [5] (fun i wr => ∃ k : Nat, k ≤ ni ∧ i = .int .i64 k ∧ Ext w0 wr) (fun i _ => ni - (intOf i).toNat)
  case atStart => exact ⟨0, Nat.zero_le _, rfl, Chg.refl _ _⟩
  case round =>
    obtain ⟨k, hk, rfl, hE⟩ := hrel
    have hX := HX0.out.ext hE
    have hY := HY0.out.ext hE
    have hxc := hX.cell
    have hxf := hX.frozen
    have hxl := hX.lt
    have hyc := hY.cell
    have hyf := hY.frozen
    have hyl := hY.lt
    by_cases hlt : k < ni
    · have hki : (k : Int) < (ni : Int) := by omega
      have hlk : k < xi.length := by rw [HNI.out]; exact hlt
      obtain ⟨p1, o1, rfl, hp1, c1⟩ := HIM.out.1 k hlk
      obtain ⟨p2, o2, rfl, hp2, c2⟩ := HIM.out.2 k hlk
      have hEr := hE1.ext hE
      have hp1' := Nat.lt_of_lt_of_le hp1 hEr.size
      have hp2' := Nat.lt_of_lt_of_le hp2 hEr.size
      obtain ⟨ya, ym, yc, yd, l0, l1, l2, hFY⟩ := FaceIn.ext hEr hp1 c1
      obtain ⟨za, zm, zc, zd, k0, k1, k2, hFZ⟩ := FaceIn.ext hEr hp2 c2
      clear c1 c2
      generalize xi[k] = y at *
      have HVN := Lib.hid (fun (u : World) (hE : Ext wr u) => rface.same_any y y _ _ u (FaceAt.ext hE hFY) (FaceAt.ext hE hFZ))
      have hdf : decide (y = y) = true := decide_eq_true rfl
      rw [hdf] at HVN
      obtain ⟨m1, hm1⟩ : ∃ n, y.vars.length = n := ⟨_, rfl⟩
      obtain ⟨m2, hm2⟩ : ∃ n, y.procs.length = n := ⟨_, rfl⟩
      obtain ⟨yn, hyn⟩ : ∃ n, y.modn = n := ⟨_, rfl⟩
      rw [hm1, hm2, hyn] at HVN
      rw [hm1] at l1 k1
      rw [hm2] at l2 k2
      rw [hyn] at l0 k0
      clear hdf hm1 hm2 hyn hFY hFZ
      have HZ : Hid (∀ w', Ext wr w' → Ext wr w' ∧ w'.cell? ⟨w.heap.size, 3, none⟩ = some (.slice (some ⟨p1, o1, none⟩) ni aj) ∧ w'.cell? ⟨w.heap.size + 1, 3, none⟩ = some (.slice (some ⟨p2, o2, none⟩) ni bj) ∧ w'.cell? ⟨p1, o1 + k * 3, none⟩ = some (.string yn) ∧ w'.cell? ⟨p1, o1 + k * 3 + 1, none⟩ = some (.slice ya m1 ym) ∧ w'.cell? ⟨p1, o1 + k * 3 + 2, none⟩ = some (.slice yc m2 yd) ∧ w'.cell? ⟨p2, o2 + k * 3, none⟩ = some (.string yn) ∧ w'.cell? ⟨p2, o2 + k * 3 + 1, none⟩ = some (.slice za m1 zm) ∧ w'.cell? ⟨p2, o2 + k * 3 + 2, none⟩ = some (.slice zc m2 zd)) := fun w' h =>
        ⟨h, (hX.ext h).cell 3, (hY.ext h).cell 3, (h.cell (p := ⟨p1, o1 + k * 3, none⟩) hp1' id).trans l0, (h.cell (p := ⟨p1, o1 + k * 3 + 1, none⟩) hp1' id).trans l1, (h.cell (p := ⟨p1, o1 + k * 3 + 2, none⟩) hp1' id).trans l2, (h.cell (p := ⟨p2, o2 + k * 3, none⟩) hp2' id).trans k0, (h.cell (p := ⟨p2, o2 + k * 3 + 1, none⟩) hp2' id).trans k1, (h.cell (p := ⟨p2, o2 + k * 3 + 2, none⟩) hp2' id).trans k2⟩
      have HE := Lib.hid hE
      clear hE hEr hX hY
      go_wp2_with fail
      clear l0 l1 l2 k0 k1 k2 hxc hxf hxl hyc hyf hyl
      refine wp_region_held_drew (S := fun w' => Ext wr w' ∧ w'.cell? ⟨w.heap.size, 3, none⟩ = some (.slice (some ⟨p1, o1, none⟩) ni aj) ∧ w'.cell? ⟨w.heap.size + 1, 3, none⟩ = some (.slice (some ⟨p2, o2, none⟩) ni bj) ∧ w'.cell? ⟨p1, o1 + k * 3, none⟩ = some (.string yn) ∧ w'.cell? ⟨p1, o1 + k * 3 + 1, none⟩ = some (.slice ya m1 ym) ∧ w'.cell? ⟨p1, o1 + k * 3 + 2, none⟩ = some (.slice yc m2 yd) ∧ w'.cell? ⟨p2, o2 + k * 3, none⟩ = some (.string yn) ∧ w'.cell? ⟨p2, o2 + k * 3 + 1, none⟩ = some (.slice za m1 zm) ∧ w'.cell? ⟨p2, o2 + k * 3 + 2, none⟩ = some (.slice zc m2 zd)) (by kernel_rfl) (HZ.out _ (Chg.refl _ _).drew) (fun hHeld => ?_)
      refine wpAnyH_take (i := 0) (v := ?va0) rfl (by kernel_rfl) (by kernel_rfl) (by kernel_rfl) (fun _ _ _ h => h) (Or.inl ⟨by rfl, ?ha0⟩) (by assumption) ?ra0
      case ha0 => intro w hSw; (try dsimp only at hSw); go_simp; (try with_reducible rfl)
      simp only [Act.put, List.getElem_toArray, List.getElem_cons_zero, List.setIfInBounds_toArray, List.set_cons_zero, List.set_cons_succ]
      refine wpAnyH_take (i := 1) (v := ?va1) rfl (by kernel_rfl) (by kernel_rfl) (by kernel_rfl) (fun _ _ _ h => h) (Or.inl ⟨by rfl, ?ha1⟩) (by assumption) ?ra1
      case ha1 => intro w hSw; (try dsimp only at hSw); go_simp; (try with_reducible rfl)
      simp only [Act.put, List.getElem_toArray, List.getElem_cons_zero, List.getElem_cons_succ, List.setIfInBounds_toArray, List.set_cons_zero, List.set_cons_succ]
      refine wpAnyH_take (i := 2) (v := ?va2) rfl (by kernel_rfl) (by kernel_rfl) (by kernel_rfl) (fun _ _ _ h => h) (Or.inl ⟨by rfl, ?ha2⟩) (by assumption) ?ra2
      case ha2 => intro w hSw; (try dsimp only at hSw); go_simp; (try with_reducible rfl)
      simp only [Act.put, List.getElem_toArray, List.getElem_cons_zero, List.getElem_cons_succ, List.setIfInBounds_toArray, List.set_cons_zero, List.set_cons_succ]
      refine wpAnyH_take (i := 3) (v := ?va3) rfl (by kernel_rfl) (by kernel_rfl) (by kernel_rfl) (fun _ _ _ h => h) (Or.inl ⟨by rfl, ?ha3⟩) (by assumption) ?ra3
      case ha3 => intro w hSw; (try dsimp only at hSw); go_simp; (try with_reducible rfl)
      simp only [Act.put, List.getElem_toArray, List.getElem_cons_zero, List.getElem_cons_succ, List.setIfInBounds_toArray, List.set_cons_zero, List.set_cons_succ]
      refine wpAnyH_take (i := 4) (v := ?va4) rfl (by kernel_rfl) (by kernel_rfl) (by kernel_rfl) (fun _ _ _ h => h) (Or.inl ⟨by rfl, ?ha4⟩) (by assumption) ?ra4
      case ha4 => intro w hSw; (try dsimp only at hSw); go_simp; (try with_reducible rfl)
      simp only [Act.put, List.getElem_toArray, List.getElem_cons_zero, List.getElem_cons_succ, List.setIfInBounds_toArray, List.set_cons_zero, List.set_cons_succ]
      refine wpAnyH_take (i := 5) (v := ?va5) rfl (by kernel_rfl) (by kernel_rfl) (by kernel_rfl) (fun _ _ _ h => h) (Or.inl ⟨by rfl, ?ha5⟩) (by assumption) ?ra5
      case ha5 => intro w hSw; (try dsimp only at hSw); go_simp; (try with_reducible rfl)
      simp only [Act.put, List.getElem_toArray, List.getElem_cons_zero, List.getElem_cons_succ, List.setIfInBounds_toArray, List.set_cons_zero, List.set_cons_succ]
      refine wpAnyH_take (i := 6) (v := ?va6) rfl (by kernel_rfl) (by kernel_rfl) (by kernel_rfl) (fun _ _ _ h => h) (Or.inl ⟨by rfl, ?ha6⟩) (by assumption) ?ra6
      case ha6 => intro w hSw; (try dsimp only at hSw); go_simp; (try with_reducible rfl)
      simp only [Act.put, List.getElem_toArray, List.getElem_cons_zero, List.getElem_cons_succ, List.setIfInBounds_toArray, List.set_cons_zero, List.set_cons_succ]
      refine wpAnyH_take (i := 7) (v := ?va7) rfl (by kernel_rfl) (by kernel_rfl) (by kernel_rfl) (fun _ _ _ h => h) (Or.inl ⟨by rfl, ?ha7⟩) (by assumption) ?ra7
      case ha7 => intro w hSw; (try dsimp only at hSw); go_simp; (try with_reducible rfl)
      simp only [Act.put, List.getElem_toArray, List.getElem_cons_zero, List.getElem_cons_succ, List.setIfInBounds_toArray, List.set_cons_zero, List.set_cons_succ]
      refine wpAnyH_take (i := 8) (v := ?va8) rfl (by kernel_rfl) (by kernel_rfl) (by kernel_rfl) (fun _ _ _ h => h) (Or.inl ⟨by rfl, ?ha8⟩) (by assumption) ?ra8
      case ha8 => intro w hSw; (try dsimp only at hSw); go_simp; (try with_reducible rfl)
      simp only [Act.put, List.getElem_toArray, List.getElem_cons_zero, List.getElem_cons_succ, List.setIfInBounds_toArray, List.set_cons_zero, List.set_cons_succ]
      refine wpAnyH_take (i := 9) (v := ?va9) rfl (by kernel_rfl) (by kernel_rfl) (by kernel_rfl) (fun _ _ _ h => h) (Or.inl ⟨by rfl, ?ha9⟩) (by assumption) ?ra9
      case ha9 => intro w hSw; (try dsimp only at hSw); go_simp; (try with_reducible rfl)
      simp only [Act.put, List.getElem_toArray, List.getElem_cons_zero, List.getElem_cons_succ, List.setIfInBounds_toArray, List.set_cons_zero, List.set_cons_succ]
      refine wpAnyH_ready (rs := [10]) (by kernel_rfl) (by simp) ?_
      refine AllReadyH.cons rfl (fun K2 hK2 => ?_) AllReadyH.nil
      go_simp
      refine (HVN.out _ (ext_of hHeld)).mono ?_
      rintro e w' ⟨rfl, hE'⟩
      refine hK2.out _ _ (HZ.out _ ((ext_of hHeld).ext hE')) (fun hHeld2 => ?_)
      clear hK2 K2 hHeld hE'
      try simp only [Act.put, List.getElem_toArray, List.getElem_cons_zero, List.getElem_cons_succ, List.setIfInBounds_toArray, List.set_cons_zero, List.set_cons_succ]
      refine wpAnyH_take (i := 11) (v := ?va11) rfl (by kernel_rfl) (by kernel_rfl) (by kernel_rfl) (fun _ _ _ h => h) (Or.inl ⟨by rfl, ?ha11⟩) (by assumption) ?ra11
      case ha11 => intro w hSw; (try dsimp only at hSw); go_simp; (try with_reducible rfl)
      simp only [Act.put, List.getElem_toArray, List.getElem_cons_zero, List.getElem_cons_succ, List.setIfInBounds_toArray, List.set_cons_zero, List.set_cons_succ]
      refine wpAnyH_done (by kernel_rfl) ?_ _
      have hEnd := ext_of hHeld2
      clear hHeld2
      go_wp2_with fail
      go_roundw
      case rel => exact ⟨k + 1, by omega, by go_num, HE.out.ext hEnd⟩
      case measure => simp [intOf]; omega
    · obtain rfl : k = ni := by omega
      clear hX hY
      go_wp2_with fail
      clear hxc hxf hxl hyc hyf hyl
      go_loopw [6] (fun i wr => ∃ c : Nat, c ≤ nc ∧ i = .int .i64 c ∧ Ext w0 wr) (fun i _ => nc - (intOf i).toNat)
      case atStart => exact ⟨0, Nat.zero_le _, rfl, hE⟩
      case round =>
        clear hE
        obtain ⟨c, hc, rfl, hE⟩ := hrel
        have hX := HX0.out.ext hE
        have hY := HY0.out.ext hE
        have hxc := hX.cell
        have hxf := hX.frozen
        have hxl := hX.lt
        have hyc := hY.cell
        have hyf := hY.frozen
        have hyl := hY.lt
        by_cases hlt2 : c < nc
        · have hki : (c : Int) < (nc : Int) := by omega
          have hlk : c < xc.length := by rw [HNC.out]; exact hlt2
          obtain ⟨p1, o1, rfl, hp1, c1⟩ := HCO.out.1 c hlk
          obtain ⟨p2, o2, rfl, hp2, c2⟩ := HCO.out.2 c hlk
          have hEr := hE1.ext hE
          have hp1' := Nat.lt_of_lt_of_le hp1 hEr.size
          have hp2' := Nat.lt_of_lt_of_le hp2 hEr.size
          obtain ⟨l0, l1, l2, l3, l4⟩ := InsIn5.ext hEr hp1 c1
          obtain ⟨k0, k1, k2, k3, k4⟩ := InsIn5.ext hEr hp2 c2
          clear c1 c2 hX hY
          generalize xc[c] = y at *
          obtain ⟨i0, i1, i2, i3, i4⟩ := y
          simp only at l0 l1 l2 l3 l4 k0 k1 k2 k3 k4
          go_wp2_with fail
          go_quiet (fail)
          go_wp2_with fail
          go_roundw
          case rel => exact ⟨c + 1, by omega, by go_num, hE.drewN _⟩
          case measure => simp [intOf]; omega
        · obtain rfl : c = nc := by omega
          clear hX hY
          go_wp2_with fail
          clear hxc hxf hxl hyc hyf hyl
          go_loopw [7] (fun i wr => ∃ j : Nat, j ≤ nr ∧ i = .int .i64 j ∧ Ext w0 wr) (fun i _ => nr - (intOf i).toNat)
          case atStart => exact ⟨0, Nat.zero_le _, rfl, hE⟩
          case round =>
            clear hE
            obtain ⟨j, hj, rfl, hE⟩ := hrel
            have hX := HX0.out.ext hE
            have hY := HY0.out.ext hE
            have hxc := hX.cell
            have hxf := hX.frozen
            have hxl := hX.lt
            have hyc := hY.cell
            have hyf := hY.frozen
            have hyl := hY.lt
            by_cases hlt3 : j < nr
            · have hki : (j : Int) < (nr : Int) := by omega
              have hlk : j < xr.length := by rw [HNR.out]; exact hlt3
              obtain ⟨p1, o1, rfl, hp1, c1⟩ := HRE.out.1 j hlk
              obtain ⟨p2, o2, rfl, hp2, c2⟩ := HRE.out.2 j hlk
              have hEr := hE1.ext hE
              have hp1' := Nat.lt_of_lt_of_le hp1 hEr.size
              have hp2' := Nat.lt_of_lt_of_le hp2 hEr.size
              obtain ⟨l0, l1, l2, l3⟩ := RelIn.ext hEr hp1 c1
              obtain ⟨k0, k1, k2, k3⟩ := RelIn.ext hEr hp2 c2
              clear c1 c2 hX hY
              generalize xr[j] = y at *
              obtain ⟨rt, rk, rm, rn⟩ := y
              simp only at l0 l1 l2 l3 k0 k1 k2 k3
              go_wp2_with fail
              go_quiet (fail)
              go_wp2_with fail
              go_roundw
              case rel => exact ⟨j + 1, by omega, by go_num, hE.drewN _⟩
              case measure => simp [intOf]; omega
            · obtain rfl : j = nr := by omega
              have hEw := hE1.ext hE
              go_wp2_with fail
              refine (HPP.out _ hEw).mono ?_
              rintro e w2 ⟨rfl, hE2⟩
              clear hxc hxf hxl hyc hyf hyl
              have hX2 := hX.ext hE2
              have hY2 := hY.ext hE2
              have hEw2 := hEw.ext hE2
              clear hX hY hEw hE2
              have hxc := hX2.cell
              have hxf := hX2.frozen
              have hxl := hX2.lt
              have hyc := hY2.cell
              have hyf := hY2.frozen
              have hyl := hY2.lt
              go_wp2_with fail
              refine (HPL.out _ hEw2).mono ?_
              rintro e w3 ⟨rfl, hE3⟩
              clear hxc hxf hxl hyc hyf hyl
              have hX3 := hX2.ext hE3
              have hY3 := hY2.ext hE3
              have hEw3 := hEw2.ext hE3
              clear hX2 hY2 hEw2 hE3
              have hxc := hX3.cell
              have hxf := hX3.frozen
              have hxl := hX3.lt
              have hyc := hY3.cell
              have hyf := hY3.frozen
              have hyl := hY3.lt
              go_wp2_with fail
              refine (HPH.out _ hEw3).mono ?_
              rintro e w4 ⟨rfl, hE4⟩
              go_wp2_with fail
              go_ret
              exact ⟨rfl, hEw3.ext hE4⟩
end objSame
end Go.Proofs.YtpcihajmcejliaaGreatDoor
