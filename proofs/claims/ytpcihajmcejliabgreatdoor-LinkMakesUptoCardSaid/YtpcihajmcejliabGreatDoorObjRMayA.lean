/- The walk of the reference's May: an object. -/
import Derived.Test.YtpcihajmcejliabGreatDoorObjRMay
import Derived.Deep.RegionHeld3
namespace Go.Proofs.YtpcihajmcejliabGreatDoor
open Go.RowKit Go.WideMaps Go.Maps
namespace rmayo
open mayo
theorem dist_one (K : List (List UInt8)) : Hid (distinctB (K.take 1) = true) := by
  unfold Hid
  cases K with
  | nil => rfl
  | cons x r => rfl
theorem ext_of {C : Prop} {w w' : World} (h : Ext w w' ∧ C) : Ext w w' := h.1
set_option maxRecDepth 100000 in
set_option maxHeartbeats 32000000 in
theorem may_any (x : FObj) (v : Value) (w : World) (hx : ObjAt w x v) (hs : ObjSmall x) :
    Calls Tryz.prog 114 #[v] w fun e w' => e = .returned (.bool (mayObjB x)) ∧ Ext w w' := by
  obtain ⟨fa, am, fc, cm, ia, ic, ca, cc, ra, rc, pa, pc, la, lc, ha, hc, rfl, hF0, h1, h2, h3, h4, h5, h6⟩ := hx.ex
  clear hx
  have hfm := fun (u : World) (hE : Ext w u) => rface.may_any x.face _ u (FaceAt.ext hE hF0)
  have hpp := fun (u : World) (hE : Ext w u) => places_any pa x.procs _ pc x.code.length u rfl hs.procs (obj.plc_all h4 hE)
  have hpl := fun (u : World) (hE : Ext w u) => places_any la x.lows _ lc x.low u rfl hs.lows (obj.plc_all h5 hE)
  have hph := fun (u : World) (hE : Ext w u) => places_any ha x.highs _ hc x.high u rfl hs.highs (obj.plc_all h6 hE)
  have hB : mayObjB x = ((wordN x.low && (wordN x.high && (wordN x.lowF && (wordN x.highF && true)))) && ((x.imports.all mayFaceB && (mayFaceB x.face && decide (x.imports.length < 6) && distinctB (x.face.key :: x.imports.map FFace.key))) && (x.code.all instrB && relsB x.relocs x.code.length && decide (x.code.length ≤ 20000)) && placesB x.procs x.code.length && placesB x.lows x.low && placesB x.highs x.high)) := rfl
  obtain ⟨B, hBB⟩ : ∃ b, mayObjB x = b := ⟨_, rfl⟩
  obtain ⟨MF, hb1⟩ : ∃ b, mayFaceB x.face = b := ⟨_, rfl⟩
  obtain ⟨b3, hb3⟩ : ∃ b, placesB x.procs x.code.length = b := ⟨_, rfl⟩
  obtain ⟨b4, hb4⟩ : ∃ b, placesB x.lows x.low = b := ⟨_, rfl⟩
  obtain ⟨b5, hb5⟩ : ∃ b, placesB x.highs x.high = b := ⟨_, rfl⟩
  obtain ⟨a1, ha1⟩ : ∃ b, wordN x.low = b := ⟨_, rfl⟩
  obtain ⟨a2, ha2⟩ : ∃ b, wordN x.high = b := ⟨_, rfl⟩
  obtain ⟨a3, ha3⟩ : ∃ b, wordN x.lowF = b := ⟨_, rfl⟩
  obtain ⟨a4, ha4⟩ : ∃ b, wordN x.highF = b := ⟨_, rfl⟩
  rw [hBB, hb1, hb3, hb4, hb5, ha1, ha2, ha3, ha4] at hB
  rw [hBB]
  rw [hb1] at hfm
  rw [hb3] at hpp
  rw [hb4] at hpl
  rw [hb5] at hph
  clear hBB hb1 hb3 hb4 hb5
  have hK0 : ∀ (h : 0 < (x.face.key :: x.imports.map FFace.key).length), (x.face.key :: x.imports.map FFace.key)[0] = x.face.modn.data.toList := fun _ => rfl
  have hKS : ∀ (k : Nat) (h : k < x.imports.length) (h2 : k + 1 < (x.face.key :: x.imports.map FFace.key).length), (x.face.key :: x.imports.map FFace.key)[k + 1] = x.imports[k].modn.data.toList := fun k h h2 => by
    rw [List.getElem_cons_succ, List.getElem_map]; rfl
  have hKL : (x.face.key :: x.imports.map FFace.key).length = x.imports.length + 1 := by simp
  have hstr := hs.strs
  have hli := hs.imports
  have hlc := hs.code
  have hlr := hs.relocs
  generalize x.face.key :: x.imports.map FFace.key = K at *
  clear h4 h5 h6 hs
  obtain ⟨xf, xi, xc, xr, op, ol, oh, lo, hi, lf, hf⟩ := x
  simp only at *
  obtain ⟨n1, hn1⟩ : ∃ n, xf.vars.length = n := ⟨_, rfl⟩
  obtain ⟨n2, hn2⟩ : ∃ n, xf.procs.length = n := ⟨_, rfl⟩
  obtain ⟨xn, hxn⟩ : ∃ n, xf.modn = n := ⟨_, rfl⟩
  obtain ⟨ni, hni⟩ : ∃ n, xi.length = n := ⟨_, rfl⟩
  obtain ⟨nc, hnc⟩ : ∃ n, xc.length = n := ⟨_, rfl⟩
  obtain ⟨nr, hnr⟩ : ∃ n, xr.length = n := ⟨_, rfl⟩
  obtain ⟨np, hnp⟩ : ∃ n, op.length = n := ⟨_, rfl⟩
  obtain ⟨nl, hnl⟩ : ∃ n, ol.length = n := ⟨_, rfl⟩
  obtain ⟨nh, hnh⟩ : ∃ n, oh.length = n := ⟨_, rfl⟩
  rw [hn1, hn2, hxn] at hfm
  rw [hnp, hnc] at hpp
  rw [hnl] at hpl
  rw [hnh] at hph
  rw [hni, hnc] at hB
  rw [hxn] at hK0
  rw [hni] at hKL hli
  rw [hnc] at hlc
  rw [hnr] at hlr
  rw [hn1, hn2, hxn, hni, hnc, hnr, hnp, hnl, hnh]
  have HFM := Lib.hid hfm
  have HPP := Lib.hid hpp
  have HPL := Lib.hid hpl
  have HPH := Lib.hid hph
  have HK0 := Lib.hid hK0
  have HKS := Lib.hid hKS
  have HKL := Lib.hid hKL
  have HNI := Lib.hid hni
  have HNC := Lib.hid hnc
  have HNR := Lib.hid hnr
  have HIM := Lib.hid h1
  have HCO := Lib.hid h2
  have HRE := Lib.hid h3
  have HSTR := Lib.hid hstr
  have HA1 := Lib.hid ha1
  have HA2 := Lib.hid ha2
  have HA3 := Lib.hid ha3
  have HA4 := Lib.hid ha4
  have HB := Lib.hid hB
  have HFI := Lib.hid (fun h : xi.all mayFaceB = false => show B = false by rw [hB, h]; simp)
  have HFD := Lib.hid (fun h : distinctB K = false => show B = false by rw [hB, h]; simp)
  have HFC := Lib.hid (fun h : xc.all instrB = false => show B = false by rw [hB, h]; simp)
  have HFR := Lib.hid (fun h : relsB xr nc = false => show B = false by rw [hB, h]; simp)
  clear hn1 hn2 hxn hni hnc hnr hnp hnl hnh h1 h2 h3 hstr ha1 ha2 ha3 ha4 hB hfm hpp hpl hph hK0 hKS hKL hF0
  have hX0 : Blk (w.alloc (.cells #[.string xn, .slice fa n1 am, .slice fc n2 cm, .slice ia ni ic, .slice ca nc cc, .slice ra nr rc, .slice pa np pc, .slice la nl lc, .slice ha nh hc, .int .i64 lo, .int .i64 hi, .int .i64 lf, .int .i64 hf] 57)) w.heap.size #[.string xn, .slice fa n1 am, .slice fc n2 cm, .slice ia ni ic, .slice ca nc cc, .slice ra nr rc, .slice pa np pc, .slice la nl lc, .slice ha nh hc, .int .i64 lo, .int .i64 hi, .int .i64 lf, .int .i64 hf] 57 := Blk.made _ _ _
  have hE0 : Ext w (w.alloc (.cells #[.string xn, .slice fa n1 am, .slice fc n2 cm, .slice ia ni ic, .slice ca nc cc, .slice ra nr rc, .slice pa np pc, .slice la nl lc, .slice ha nh hc, .int .i64 lo, .int .i64 hi, .int .i64 lf, .int .i64 hf] 57)) := (Chg.refl _ _).alloc _
  have hxc := hX0.cell
  have hxf := hX0.frozen
  have hxl := hX0.lt
  go_enter Tryz.func114, Tryz.ntmps114
  go_wp2_with fail
  refine (HFM.out _ hE0).mono ?_
  rintro e w0 ⟨rfl, hE⟩
  clear hxc hxf hxl
  have hX1 := hX0.ext hE
  have hE1 := hE0.ext hE
  clear hX0 hE0 hE HFM
  have hxc := hX1.cell
  have hxf := hX1.frozen
  have hxl := hX1.lt
  cases MF
  · have HT2 := Lib.hid (show B = false by rw [HB.out]; simp)
    go_wp2_with fail
    go_ret
    exact ⟨ret_bool HT2.out.symm, hE1⟩
  · by_cases h6 : 5 < ni
    · have h6i : (5 : Int) < (ni : Int) := by omega
      have HT2 := Lib.hid (show B = false by rw [HB.out, decide_eq_false (show ¬ ni < 6 by omega)]; simp)
      go_wp2_with fail
      go_ret
      exact ⟨ret_bool HT2.out.symm, hE1⟩
    · have h6i : ¬ (5 : Int) < (ni : Int) := by omega
      by_cases hc2 : 20000 < nc
      · have hci : (20000 : Int) < (nc : Int) := by omega
        have HT2 := Lib.hid (show B = false by rw [HB.out, decide_eq_false (show ¬ nc ≤ 20000 by omega)]; simp)
        go_wp2_with fail
        go_ret
        exact ⟨ret_bool HT2.out.symm, hE1⟩
      · have hci : ¬ (20000 : Int) < (nc : Int) := by omega
        cases a1
        · have HT2 := Lib.hid (show B = false by rw [HB.out]; simp)
          go_wp2_with (go_at_call 196; refine (words_any _ _).mono ?_; rintro e w' ⟨rfl, rfl⟩; first | rw [HA1.out] | rw [HA2.out] | rw [HA3.out] | rw [HA4.out])
          go_ret
          exact ⟨ret_bool HT2.out.symm, hE1⟩
        · have _ := HB
          cases a2
          · have HT2 := Lib.hid (show B = false by rw [HB.out]; simp)
            go_wp2_with (go_at_call 196; refine (words_any _ _).mono ?_; rintro e w' ⟨rfl, rfl⟩; first | rw [HA1.out] | rw [HA2.out] | rw [HA3.out] | rw [HA4.out])
            go_ret
            exact ⟨ret_bool HT2.out.symm, hE1⟩
          · have _ := HB
            cases a3
            · have HT2 := Lib.hid (show B = false by rw [HB.out]; simp)
              go_wp2_with (go_at_call 196; refine (words_any _ _).mono ?_; rintro e w' ⟨rfl, rfl⟩; first | rw [HA1.out] | rw [HA2.out] | rw [HA3.out] | rw [HA4.out])
              go_ret
              exact ⟨ret_bool HT2.out.symm, hE1⟩
            · have _ := HB
              cases a4
              · have HT2 := Lib.hid (show B = false by rw [HB.out]; simp)
                go_wp2_with (go_at_call 196; refine (words_any _ _).mono ?_; rintro e w' ⟨rfl, rfl⟩; first | rw [HA1.out] | rw [HA2.out] | rw [HA3.out] | rw [HA4.out])
                go_ret
                exact ⟨ret_bool HT2.out.symm, hE1⟩
              · have _ := HB
                have HT := Lib.hid (fun (h1 : xi.all mayFaceB = true) (h2 : distinctB K = true) (h3 : xc.all instrB = true) (h4 : relsB xr nc = true) => show B = (b3 && b4 && b5) by rw [HB.out, h1, h2, h3, h4, decide_eq_true (show ni < 6 by omega), decide_eq_true (show nc ≤ 20000 by omega)]; rfl)
                clear HB
                go_wp2_with (go_at_call 196; refine (words_any _ _).mono ?_; rintro e w' ⟨rfl, rfl⟩; first | rw [HA1.out] | rw [HA2.out] | rw [HA3.out] | rw [HA4.out])
                clear hxc hxf hxl HA1 HA2 HA3 HA4
                have HX0 := Lib.hid hX1
                clear hX1
                go_loopw [3] (fun i wr => ∃ k : Nat, k ≤ ni ∧ i = .int .i64 k ∧ Hid ((xi.take k).all mayFaceB = true) ∧ Hid (distinctB (K.take (k + 1)) = true) ∧ Ext w0 wr) (fun i _ => ni - (intOf i).toNat)
                case atStart => exact ⟨0, Nat.zero_le _, rfl, by simp [Hid], dist_one K, Chg.refl _ _⟩
                case round =>
                  obtain ⟨k, hk, rfl, hr1, hr2, hE⟩ := hrel
                  have hX := HX0.out.ext hE
                  have hxc := hX.cell
                  have hxf := hX.frozen
                  have hxl := hX.lt
                  by_cases hlt : k < ni
                  · have hki : (k : Int) < (ni : Int) := by omega
                    have hlk : k < xi.length := by rw [HNI.out]; exact hlt
                    have hkk : k + 1 < K.length := by rw [HKL.out]; omega
                    obtain ⟨bl, ob, rfl, hbl, cl⟩ := HIM.out k hlk
                    have hEr := hE1.ext hE
                    have hbl' := Nat.lt_of_lt_of_le hbl hEr.size
                    obtain ⟨ya, ym, yc, yd, l0, l1, l2, hFY⟩ := FaceIn.ext hEr hbl cl
                    have hs := face.all_snoc mayFaceB xi k hlk
                    rw [hr1.out, Bool.true_and] at hs
                    have HBAD := Lib.hid (fun h => HFI.out (face.all_bad hlk h))
                    have HW := Lib.hid (HKS.out k hlk hkk)
                    have HD1 := Lib.hid (fun (j : Nat) (hj : j < k + 1) (e : K[j] = K[k + 1]) => HFD.out (dist_bad hj hkk e))
                    have HD2 := Lib.hid (fun hn => dist_next hkk hr2.out hn)
                    have HK00 := Lib.hid (HK0.out (by omega))
                    clear cl hr1 hr2
                    generalize xi[k] = y at *
                    have HVN := Lib.hid (fun (u : World) (hE : Ext wr u) => rface.may_any y _ u (FaceAt.ext hE hFY))
                    obtain ⟨m1, hm1⟩ : ∃ n, y.vars.length = n := ⟨_, rfl⟩
                    obtain ⟨m2, hm2⟩ : ∃ n, y.procs.length = n := ⟨_, rfl⟩
                    obtain ⟨yn, hyn⟩ : ∃ n, y.modn = n := ⟨_, rfl⟩
                    obtain ⟨MY, hMY⟩ : ∃ b, mayFaceB y = b := ⟨_, rfl⟩
                    rw [hm1, hm2, hyn, hMY] at HVN
                    rw [hm1] at l1
                    rw [hm2] at l2
                    rw [hyn] at l0 HW
                    rw [hMY] at hs HBAD
                    have HS := Lib.hid hs
                    clear hs hm1 hm2 hyn hMY hFY
                    have HZ : Hid (∀ w', Ext wr w' → Ext wr w' ∧ w'.cell? ⟨w.heap.size, 3, none⟩ = some (.slice (some ⟨bl, ob, none⟩) ni ic) ∧ w'.cell? ⟨w.heap.size, 0, none⟩ = some (.string xn) ∧ w'.cell? ⟨bl, ob + k * 3, none⟩ = some (.string yn) ∧ w'.cell? ⟨bl, ob + k * 3 + 1, none⟩ = some (.slice ya m1 ym) ∧ w'.cell? ⟨bl, ob + k * 3 + 2, none⟩ = some (.slice yc m2 yd)) := fun w' h =>
                      ⟨h, (hX.ext h).cell 3, (hX.ext h).cell 0, (h.cell (p := ⟨bl, ob + k * 3, none⟩) hbl' id).trans l0, (h.cell (p := ⟨bl, ob + k * 3 + 1, none⟩) hbl' id).trans l1, (h.cell (p := ⟨bl, ob + k * 3 + 2, none⟩) hbl' id).trans l2⟩
                    have HX := Lib.hid hX
                    have HE := Lib.hid hE
                    have HEr := Lib.hid hEr
                    clear hE hEr hX
                    cases MY
                    · have HT2 := Lib.hid (HBAD.out rfl)
                      go_wp2_with fail
                      clear l0 l1 l2 hxc hxf hxl
                      refine wp_region_held_drew (S := fun w' => Ext wr w' ∧ w'.cell? ⟨w.heap.size, 3, none⟩ = some (.slice (some ⟨bl, ob, none⟩) ni ic) ∧ w'.cell? ⟨w.heap.size, 0, none⟩ = some (.string xn) ∧ w'.cell? ⟨bl, ob + k * 3, none⟩ = some (.string yn) ∧ w'.cell? ⟨bl, ob + k * 3 + 1, none⟩ = some (.slice ya m1 ym) ∧ w'.cell? ⟨bl, ob + k * 3 + 2, none⟩ = some (.slice yc m2 yd)) (by kernel_rfl) (HZ.out _ (Chg.refl _ _).drew) (fun hHeld => ?_)
                      refine wpAnyH_take (i := 0) (v := ?va0) rfl (by kernel_rfl) (by kernel_rfl) (by kernel_rfl) (fun _ _ _ h => h) (Or.inl ⟨by rfl, ?ha0⟩) (by assumption) ?ra0
                      case ha0 => intro w hSw; (try dsimp only at hSw); go_simp; (try with_reducible rfl)
                      simp only [Act.put, List.getElem_toArray, List.getElem_cons_zero, List.setIfInBounds_toArray, List.set_cons_zero, List.set_cons_succ]
                      refine wpAnyH_take (i := 1) (v := ?va1) rfl (by kernel_rfl) (by kernel_rfl) (by kernel_rfl) (fun _ _ _ h => h) (Or.inl ⟨by rfl, ?ha1⟩) (by assumption) ?ra1
                      case ha1 => intro w hSw; (try dsimp only at hSw); go_simp; (try with_reducible rfl)
                      simp only [Act.put, List.getElem_toArray, List.getElem_cons_zero, List.getElem_cons_succ, List.setIfInBounds_toArray, List.set_cons_zero, List.set_cons_succ]
                      refine wpAnyH_take (i := 2) (v := ?va2) rfl (by kernel_rfl) (by kernel_rfl) (by kernel_rfl) (fun _ _ _ h => h) (Or.inl ⟨by rfl, ?ha2⟩) (by assumption) ?ra2
                      case ha2 => intro w hSw; (try dsimp only at hSw); go_simp; (try with_reducible rfl)
                      simp only [Act.put, List.getElem_toArray, List.getElem_cons_zero, List.getElem_cons_succ, List.setIfInBounds_toArray, List.set_cons_zero, List.set_cons_succ]
                      refine wpAnyH_take (i := 3) (v := ?va3) rfl (by kernel_rfl) (by kernel_rfl) (by kernel_rfl) (fun _ _ _ h => h) (Or.inl ⟨by rfl, ?ha3⟩) (by assumption) ?ra3
                      case ha3 => intro w hSw; (try dsimp only at hSw); go_simp; (try with_reducible rfl)
                      simp only [Act.put, List.getElem_toArray, List.getElem_cons_zero, List.getElem_cons_succ, List.setIfInBounds_toArray, List.set_cons_zero, List.set_cons_succ]
                      refine wpAnyH_take (i := 4) (v := ?va4) rfl (by kernel_rfl) (by kernel_rfl) (by kernel_rfl) (fun _ _ _ h => h) (Or.inl ⟨by rfl, ?ha4⟩) (by assumption) ?ra4
                      case ha4 => intro w hSw; (try dsimp only at hSw); go_simp; (try with_reducible rfl)
                      simp only [Act.put, List.getElem_toArray, List.getElem_cons_zero, List.getElem_cons_succ, List.setIfInBounds_toArray, List.set_cons_zero, List.set_cons_succ]
                      refine wpAnyH_ready (rs := [5]) (by kernel_rfl) (by simp) ?_
                      refine AllReadyH.cons rfl (fun K2 hK2 => ?_) AllReadyH.nil
                      go_simp
                      refine (HVN.out _ (ext_of hHeld)).mono ?_
                      rintro e w' ⟨rfl, hE'⟩
                      refine hK2.out _ _ (HZ.out _ ((ext_of hHeld).ext hE')) (fun hHeld2 => ?_)
                      clear hK2 K2 hHeld hE'
                      try simp only [Act.put, List.getElem_toArray, List.getElem_cons_zero, List.getElem_cons_succ, List.setIfInBounds_toArray, List.set_cons_zero, List.set_cons_succ]
                      refine wpAnyH_take (i := 6) (v := ?va6) rfl (by kernel_rfl) (by kernel_rfl) (by kernel_rfl) (fun _ _ _ h => h) (Or.inl ⟨by rfl, ?ha6⟩) (by assumption) ?ra6
                      case ha6 => intro w hSw; (try dsimp only at hSw); go_simp; (try with_reducible rfl)
                      simp only [Act.put, List.getElem_toArray, List.getElem_cons_zero, List.getElem_cons_succ, List.setIfInBounds_toArray, List.set_cons_zero, List.set_cons_succ]
                      refine wpAnyH_take (i := 7) (v := ?va7) rfl (by kernel_rfl) (by kernel_rfl) (by kernel_rfl) (fun _ _ _ h => h) (Or.inl ⟨by rfl, ?ha7⟩) (by assumption) ?ra7
                      case ha7 => intro w hSw; (try dsimp only at hSw); go_simp; (try with_reducible rfl)
                      simp only [Act.put, List.getElem_toArray, List.getElem_cons_zero, List.getElem_cons_succ, List.setIfInBounds_toArray, List.set_cons_zero, List.set_cons_succ]
                      refine wpAnyH_take (i := 8) (v := undef) rfl (by kernel_rfl) (by kernel_rfl) (by kernel_rfl) (fun _ _ _ h => h) (Or.inr ⟨by rfl, rfl⟩) (by assumption) ?_
                      simp only [Act.put, List.getElem_toArray, List.getElem_cons_zero, List.getElem_cons_succ, List.setIfInBounds_toArray, List.set_cons_zero, List.set_cons_succ]
                      refine wpAnyH_take (i := 9) (v := undef) rfl (by kernel_rfl) (by kernel_rfl) (by kernel_rfl) (fun _ _ _ h => h) (Or.inr ⟨by rfl, rfl⟩) (by assumption) ?_
                      simp only [Act.put, List.getElem_toArray, List.getElem_cons_zero, List.getElem_cons_succ, List.setIfInBounds_toArray, List.set_cons_zero, List.set_cons_succ]
                      refine wpAnyH_take (i := 10) (v := undef) rfl (by kernel_rfl) (by kernel_rfl) (by kernel_rfl) (fun _ _ _ h => h) (Or.inr ⟨by rfl, rfl⟩) (by assumption) ?_
                      simp only [Act.put, List.getElem_toArray, List.getElem_cons_zero, List.getElem_cons_succ, List.setIfInBounds_toArray, List.set_cons_zero, List.set_cons_succ]
                      refine wpAnyH_take (i := 11) (v := undef) rfl (by kernel_rfl) (by kernel_rfl) (by kernel_rfl) (fun _ _ _ h => h) (Or.inr ⟨by rfl, rfl⟩) (by assumption) ?_
                      simp only [Act.put, List.getElem_toArray, List.getElem_cons_zero, List.getElem_cons_succ, List.setIfInBounds_toArray, List.set_cons_zero, List.set_cons_succ]
                      refine wpAnyH_take (i := 12) (v := undef) rfl (by kernel_rfl) (by kernel_rfl) (by kernel_rfl) (fun _ _ _ h => h) (Or.inr ⟨by rfl, rfl⟩) (by assumption) ?_
                      simp only [Act.put, List.getElem_toArray, List.getElem_cons_zero, List.getElem_cons_succ, List.setIfInBounds_toArray, List.set_cons_zero, List.set_cons_succ]
                      refine wpAnyH_take (i := 13) (v := undef) rfl (by kernel_rfl) (by kernel_rfl) (by kernel_rfl) (fun _ _ _ h => h) (Or.inr ⟨by rfl, rfl⟩) (by assumption) ?_
                      simp only [Act.put, List.getElem_toArray, List.getElem_cons_zero, List.getElem_cons_succ, List.setIfInBounds_toArray, List.set_cons_zero, List.set_cons_succ]
                      refine wpAnyH_take (i := 14) (v := undef) rfl (by kernel_rfl) (by kernel_rfl) (by kernel_rfl) (fun _ _ _ h => h) (Or.inr ⟨by rfl, rfl⟩) (by assumption) ?_
                      simp only [Act.put, List.getElem_toArray, List.getElem_cons_zero, List.getElem_cons_succ, List.setIfInBounds_toArray, List.set_cons_zero, List.set_cons_succ]
                      refine wpAnyH_take (i := 15) (v := undef) rfl (by kernel_rfl) (by kernel_rfl) (by kernel_rfl) (fun _ _ _ h => h) (Or.inr ⟨by rfl, rfl⟩) (by assumption) ?_
                      simp only [Act.put, List.getElem_toArray, List.getElem_cons_zero, List.getElem_cons_succ, List.setIfInBounds_toArray, List.set_cons_zero, List.set_cons_succ]
                      refine wpAnyH_take (i := 16) (v := undef) rfl (by kernel_rfl) (by kernel_rfl) (by kernel_rfl) (fun _ _ _ h => h) (Or.inr ⟨by rfl, rfl⟩) (by assumption) ?_
                      simp only [Act.put, List.getElem_toArray, List.getElem_cons_zero, List.getElem_cons_succ, List.setIfInBounds_toArray, List.set_cons_zero, List.set_cons_succ]
                      refine wpAnyH_take (i := 17) (v := undef) rfl (by kernel_rfl) (by kernel_rfl) (by kernel_rfl) (fun _ _ _ h => h) (Or.inr ⟨by rfl, rfl⟩) (by assumption) ?_
                      simp only [Act.put, List.getElem_toArray, List.getElem_cons_zero, List.getElem_cons_succ, List.setIfInBounds_toArray, List.set_cons_zero, List.set_cons_succ]
                      refine wpAnyH_take (i := 18) (v := ?va18) rfl (by kernel_rfl) (by kernel_rfl) (by kernel_rfl) (fun _ _ _ h => h) (Or.inl ⟨by rfl, ?ha18⟩) (by assumption) ?ra18
                      case ha18 => intro w hSw; (try dsimp only at hSw); go_simp; (try with_reducible rfl)
                      simp only [Act.put, List.getElem_toArray, List.getElem_cons_zero, List.getElem_cons_succ, List.setIfInBounds_toArray, List.set_cons_zero, List.set_cons_succ]
                      refine wpAnyH_done (by kernel_rfl) ?_ _
                      have hEnd := ext_of hHeld2
                      clear hHeld2
                      go_wp2_with fail
                      go_ret
                      exact ⟨ret_bool HT2.out.symm, HEr.out.ext hEnd⟩
                    · by_cases he : yn = xn
                      · have hxy : (yn.toList == xn.toList) = true := by rw [he]; exact beq_self_eq_true _
                        have HT2 := Lib.hid (HD1.out 0 (by omega) (by rw [HK00.out, HW.out, he]))
                        clear he
                        go_wp2_with fail
                        clear l0 l1 l2 hxc hxf hxl
                        refine wp_region_held_drew (S := fun w' => Ext wr w' ∧ w'.cell? ⟨w.heap.size, 3, none⟩ = some (.slice (some ⟨bl, ob, none⟩) ni ic) ∧ w'.cell? ⟨w.heap.size, 0, none⟩ = some (.string xn) ∧ w'.cell? ⟨bl, ob + k * 3, none⟩ = some (.string yn) ∧ w'.cell? ⟨bl, ob + k * 3 + 1, none⟩ = some (.slice ya m1 ym) ∧ w'.cell? ⟨bl, ob + k * 3 + 2, none⟩ = some (.slice yc m2 yd)) (by kernel_rfl) (HZ.out _ (Chg.refl _ _).drew) (fun hHeld => ?_)
                        refine wpAnyH_take (i := 0) (v := ?vb0) rfl (by kernel_rfl) (by kernel_rfl) (by kernel_rfl) (fun _ _ _ h => h) (Or.inl ⟨by rfl, ?hb0⟩) (by assumption) ?rb0
                        case hb0 => intro w hSw; (try dsimp only at hSw); go_simp; (try with_reducible rfl)
                        simp only [Act.put, List.getElem_toArray, List.getElem_cons_zero, List.setIfInBounds_toArray, List.set_cons_zero, List.set_cons_succ]
                        refine wpAnyH_take (i := 1) (v := ?vb1) rfl (by kernel_rfl) (by kernel_rfl) (by kernel_rfl) (fun _ _ _ h => h) (Or.inl ⟨by rfl, ?hb1⟩) (by assumption) ?rb1
                        case hb1 => intro w hSw; (try dsimp only at hSw); go_simp; (try with_reducible rfl)
                        simp only [Act.put, List.getElem_toArray, List.getElem_cons_zero, List.getElem_cons_succ, List.setIfInBounds_toArray, List.set_cons_zero, List.set_cons_succ]
                        refine wpAnyH_take (i := 2) (v := ?vb2) rfl (by kernel_rfl) (by kernel_rfl) (by kernel_rfl) (fun _ _ _ h => h) (Or.inl ⟨by rfl, ?hb2⟩) (by assumption) ?rb2
                        case hb2 => intro w hSw; (try dsimp only at hSw); go_simp; (try with_reducible rfl)
                        simp only [Act.put, List.getElem_toArray, List.getElem_cons_zero, List.getElem_cons_succ, List.setIfInBounds_toArray, List.set_cons_zero, List.set_cons_succ]
                        refine wpAnyH_take (i := 3) (v := ?vb3) rfl (by kernel_rfl) (by kernel_rfl) (by kernel_rfl) (fun _ _ _ h => h) (Or.inl ⟨by rfl, ?hb3⟩) (by assumption) ?rb3
                        case hb3 => intro w hSw; (try dsimp only at hSw); go_simp; (try with_reducible rfl)
                        simp only [Act.put, List.getElem_toArray, List.getElem_cons_zero, List.getElem_cons_succ, List.setIfInBounds_toArray, List.set_cons_zero, List.set_cons_succ]
                        refine wpAnyH_take (i := 4) (v := ?vb4) rfl (by kernel_rfl) (by kernel_rfl) (by kernel_rfl) (fun _ _ _ h => h) (Or.inl ⟨by rfl, ?hb4⟩) (by assumption) ?rb4
                        case hb4 => intro w hSw; (try dsimp only at hSw); go_simp; (try with_reducible rfl)
                        simp only [Act.put, List.getElem_toArray, List.getElem_cons_zero, List.getElem_cons_succ, List.setIfInBounds_toArray, List.set_cons_zero, List.set_cons_succ]
                        refine wpAnyH_ready (rs := [5]) (by kernel_rfl) (by simp) ?_
                        refine AllReadyH.cons rfl (fun K2 hK2 => ?_) AllReadyH.nil
                        go_simp
                        refine (HVN.out _ (ext_of hHeld)).mono ?_
                        rintro e w' ⟨rfl, hE'⟩
                        refine hK2.out _ _ (HZ.out _ ((ext_of hHeld).ext hE')) (fun hHeld2 => ?_)
                        clear hK2 K2 hHeld hE'
                        try simp only [Act.put, List.getElem_toArray, List.getElem_cons_zero, List.getElem_cons_succ, List.setIfInBounds_toArray, List.set_cons_zero, List.set_cons_succ]
                        refine wpAnyH_take (i := 6) (v := ?vb6) rfl (by kernel_rfl) (by kernel_rfl) (by kernel_rfl) (fun _ _ _ h => h) (Or.inl ⟨by rfl, ?hb6⟩) (by assumption) ?rb6
                        case hb6 => intro w hSw; (try dsimp only at hSw); go_simp; (try with_reducible rfl)
                        simp only [Act.put, List.getElem_toArray, List.getElem_cons_zero, List.getElem_cons_succ, List.setIfInBounds_toArray, List.set_cons_zero, List.set_cons_succ]
                        refine wpAnyH_take (i := 7) (v := ?vb7) rfl (by kernel_rfl) (by kernel_rfl) (by kernel_rfl) (fun _ _ _ h => h) (Or.inl ⟨by rfl, ?hb7⟩) (by assumption) ?rb7
                        case hb7 => intro w hSw; (try dsimp only at hSw); go_simp; (try with_reducible rfl)
                        simp only [Act.put, List.getElem_toArray, List.getElem_cons_zero, List.getElem_cons_succ, List.setIfInBounds_toArray, List.set_cons_zero, List.set_cons_succ]
                        refine wpAnyH_take (i := 8) (v := ?vb8) rfl (by kernel_rfl) (by kernel_rfl) (by kernel_rfl) (fun _ _ _ h => h) (Or.inl ⟨by rfl, ?hb8⟩) (by assumption) ?rb8
                        case hb8 => intro w hSw; (try dsimp only at hSw); go_simp; (try with_reducible rfl)
                        simp only [Act.put, List.getElem_toArray, List.getElem_cons_zero, List.getElem_cons_succ, List.setIfInBounds_toArray, List.set_cons_zero, List.set_cons_succ]
                        refine wpAnyH_take (i := 9) (v := ?vb9) rfl (by kernel_rfl) (by kernel_rfl) (by kernel_rfl) (fun _ _ _ h => h) (Or.inl ⟨by rfl, ?hb9⟩) (by assumption) ?rb9
                        case hb9 => intro w hSw; (try dsimp only at hSw); go_simp; (try with_reducible rfl)
                        simp only [Act.put, List.getElem_toArray, List.getElem_cons_zero, List.getElem_cons_succ, List.setIfInBounds_toArray, List.set_cons_zero, List.set_cons_succ]
                        refine wpAnyH_take (i := 10) (v := ?vb10) rfl (by kernel_rfl) (by kernel_rfl) (by kernel_rfl) (fun _ _ _ h => h) (Or.inl ⟨by rfl, ?hb10⟩) (by assumption) ?rb10
                        case hb10 => intro w hSw; (try dsimp only at hSw); go_simp; (try with_reducible rfl)
                        simp only [Act.put, List.getElem_toArray, List.getElem_cons_zero, List.getElem_cons_succ, List.setIfInBounds_toArray, List.set_cons_zero, List.set_cons_succ]
                        refine wpAnyH_take (i := 11) (v := ?vb11) rfl (by kernel_rfl) (by kernel_rfl) (by kernel_rfl) (fun _ _ _ h => h) (Or.inl ⟨by rfl, ?hb11⟩) (by assumption) ?rb11
                        case hb11 => intro w hSw; (try dsimp only at hSw); go_simp; (try with_reducible rfl)
                        simp only [Act.put, List.getElem_toArray, List.getElem_cons_zero, List.getElem_cons_succ, List.setIfInBounds_toArray, List.set_cons_zero, List.set_cons_succ]
                        refine wpAnyH_take (i := 12) (v := ?vb12) rfl (by kernel_rfl) (by kernel_rfl) (by kernel_rfl) (fun _ _ _ h => h) (Or.inl ⟨by rfl, ?hb12⟩) (by assumption) ?rb12
                        case hb12 => intro w hSw; (try dsimp only at hSw); go_simp; (try with_reducible rfl)
                        simp only [Act.put, List.getElem_toArray, List.getElem_cons_zero, List.getElem_cons_succ, List.setIfInBounds_toArray, List.set_cons_zero, List.set_cons_succ]
                        refine wpAnyH_take (i := 13) (v := ?vb13) rfl (by kernel_rfl) (by kernel_rfl) (by kernel_rfl) (fun _ _ _ h => h) (Or.inl ⟨by rfl, ?hb13⟩) (by assumption) ?rb13
                        case hb13 => intro w hSw; (try dsimp only at hSw); go_simp; (try with_reducible rfl)
                        simp only [Act.put, List.getElem_toArray, List.getElem_cons_zero, List.getElem_cons_succ, List.setIfInBounds_toArray, List.set_cons_zero, List.set_cons_succ]
                        refine wpAnyH_take (i := 14) (v := ?vb14) rfl (by kernel_rfl) (by kernel_rfl) (by kernel_rfl) (fun _ _ _ h => h) (Or.inl ⟨by rfl, ?hb14⟩) (by assumption) ?rb14
                        case hb14 => intro w hSw; (try dsimp only at hSw); go_simp; (try with_reducible rfl)
                        simp only [Act.put, List.getElem_toArray, List.getElem_cons_zero, List.getElem_cons_succ, List.setIfInBounds_toArray, List.set_cons_zero, List.set_cons_succ]
                        refine wpAnyH_take (i := 15) (v := ?vb15) rfl (by kernel_rfl) (by kernel_rfl) (by kernel_rfl) (fun _ _ _ h => h) (Or.inl ⟨by rfl, ?hb15⟩) (by assumption) ?rb15
                        case hb15 => intro w hSw; (try dsimp only at hSw); go_simp; (try with_reducible rfl)
                        simp only [Act.put, List.getElem_toArray, List.getElem_cons_zero, List.getElem_cons_succ, List.setIfInBounds_toArray, List.set_cons_zero, List.set_cons_succ]
                        refine wpAnyH_take (i := 16) (v := ?vb16) rfl (by kernel_rfl) (by kernel_rfl) (by kernel_rfl) (fun _ _ _ h => h) (Or.inl ⟨by rfl, ?hb16⟩) (by assumption) ?rb16
                        case hb16 => intro w hSw; (try dsimp only at hSw); go_simp; (try with_reducible rfl)
                        simp only [Act.put, List.getElem_toArray, List.getElem_cons_zero, List.getElem_cons_succ, List.setIfInBounds_toArray, List.set_cons_zero, List.set_cons_succ]
                        refine wpAnyH_take (i := 17) (v := ?vb17) rfl (by kernel_rfl) (by kernel_rfl) (by kernel_rfl) (fun _ _ _ h => h) (Or.inl ⟨by rfl, ?hb17⟩) (by assumption) ?rb17
                        case hb17 => intro w hSw; (try dsimp only at hSw); go_simp; (try with_reducible rfl)
                        simp only [Act.put, List.getElem_toArray, List.getElem_cons_zero, List.getElem_cons_succ, List.setIfInBounds_toArray, List.set_cons_zero, List.set_cons_succ]
                        refine wpAnyH_take (i := 18) (v := ?vb18) rfl (by kernel_rfl) (by kernel_rfl) (by kernel_rfl) (fun _ _ _ h => h) (Or.inl ⟨by rfl, ?hb18⟩) (by assumption) ?rb18
                        case hb18 => intro w hSw; (try dsimp only at hSw); go_simp; (try with_reducible rfl)
                        simp only [Act.put, List.getElem_toArray, List.getElem_cons_zero, List.getElem_cons_succ, List.setIfInBounds_toArray, List.set_cons_zero, List.set_cons_succ]
                        refine wpAnyH_done (by kernel_rfl) ?_ _
                        have hEnd := ext_of hHeld2
                        clear hHeld2
                        go_wp2_with fail
                        go_ret
                        exact ⟨ret_bool HT2.out.symm, HEr.out.ext hEnd⟩
                      · have hxy : (yn.toList == xn.toList) = false := by
                          rw [beq_eq_false_iff_ne]
                          exact fun e => he (str_inj e)
                        have HN0 : Hid (K[0] ≠ K[k + 1]) := fun e => he (data_inj (by rw [← HK00.out, ← HW.out, e]))
                        clear he
                        go_wp2_with fail
                        clear l0 l1 l2 hxc hxf hxl
                        refine wp_region_held_drew (S := fun w' => Ext wr w' ∧ w'.cell? ⟨w.heap.size, 3, none⟩ = some (.slice (some ⟨bl, ob, none⟩) ni ic) ∧ w'.cell? ⟨w.heap.size, 0, none⟩ = some (.string xn) ∧ w'.cell? ⟨bl, ob + k * 3, none⟩ = some (.string yn) ∧ w'.cell? ⟨bl, ob + k * 3 + 1, none⟩ = some (.slice ya m1 ym) ∧ w'.cell? ⟨bl, ob + k * 3 + 2, none⟩ = some (.slice yc m2 yd)) (by kernel_rfl) (HZ.out _ (Chg.refl _ _).drew) (fun hHeld => ?_)
                        refine wpAnyH_take (i := 0) (v := ?vc0) rfl (by kernel_rfl) (by kernel_rfl) (by kernel_rfl) (fun _ _ _ h => h) (Or.inl ⟨by rfl, ?hc0⟩) (by assumption) ?rc0
                        case hc0 => intro w hSw; (try dsimp only at hSw); go_simp; (try with_reducible rfl)
                        simp only [Act.put, List.getElem_toArray, List.getElem_cons_zero, List.setIfInBounds_toArray, List.set_cons_zero, List.set_cons_succ]
                        refine wpAnyH_take (i := 1) (v := ?vc1) rfl (by kernel_rfl) (by kernel_rfl) (by kernel_rfl) (fun _ _ _ h => h) (Or.inl ⟨by rfl, ?hc1⟩) (by assumption) ?rc1
                        case hc1 => intro w hSw; (try dsimp only at hSw); go_simp; (try with_reducible rfl)
                        simp only [Act.put, List.getElem_toArray, List.getElem_cons_zero, List.getElem_cons_succ, List.setIfInBounds_toArray, List.set_cons_zero, List.set_cons_succ]
                        refine wpAnyH_take (i := 2) (v := ?vc2) rfl (by kernel_rfl) (by kernel_rfl) (by kernel_rfl) (fun _ _ _ h => h) (Or.inl ⟨by rfl, ?hc2⟩) (by assumption) ?rc2
                        case hc2 => intro w hSw; (try dsimp only at hSw); go_simp; (try with_reducible rfl)
                        simp only [Act.put, List.getElem_toArray, List.getElem_cons_zero, List.getElem_cons_succ, List.setIfInBounds_toArray, List.set_cons_zero, List.set_cons_succ]
                        refine wpAnyH_take (i := 3) (v := ?vc3) rfl (by kernel_rfl) (by kernel_rfl) (by kernel_rfl) (fun _ _ _ h => h) (Or.inl ⟨by rfl, ?hc3⟩) (by assumption) ?rc3
                        case hc3 => intro w hSw; (try dsimp only at hSw); go_simp; (try with_reducible rfl)
                        simp only [Act.put, List.getElem_toArray, List.getElem_cons_zero, List.getElem_cons_succ, List.setIfInBounds_toArray, List.set_cons_zero, List.set_cons_succ]
                        refine wpAnyH_take (i := 4) (v := ?vc4) rfl (by kernel_rfl) (by kernel_rfl) (by kernel_rfl) (fun _ _ _ h => h) (Or.inl ⟨by rfl, ?hc4⟩) (by assumption) ?rc4
                        case hc4 => intro w hSw; (try dsimp only at hSw); go_simp; (try with_reducible rfl)
                        simp only [Act.put, List.getElem_toArray, List.getElem_cons_zero, List.getElem_cons_succ, List.setIfInBounds_toArray, List.set_cons_zero, List.set_cons_succ]
                        refine wpAnyH_ready (rs := [5]) (by kernel_rfl) (by simp) ?_
                        refine AllReadyH.cons rfl (fun K2 hK2 => ?_) AllReadyH.nil
                        go_simp
                        refine (HVN.out _ (ext_of hHeld)).mono ?_
                        rintro e w' ⟨rfl, hE'⟩
                        refine hK2.out _ _ (HZ.out _ ((ext_of hHeld).ext hE')) (fun hHeld2 => ?_)
                        clear hK2 K2 hHeld hE'
                        try simp only [Act.put, List.getElem_toArray, List.getElem_cons_zero, List.getElem_cons_succ, List.setIfInBounds_toArray, List.set_cons_zero, List.set_cons_succ]
                        refine wpAnyH_take (i := 6) (v := ?vc6) rfl (by kernel_rfl) (by kernel_rfl) (by kernel_rfl) (fun _ _ _ h => h) (Or.inl ⟨by rfl, ?hc6⟩) (by assumption) ?rc6
                        case hc6 => intro w hSw; (try dsimp only at hSw); go_simp; (try with_reducible rfl)
                        simp only [Act.put, List.getElem_toArray, List.getElem_cons_zero, List.getElem_cons_succ, List.setIfInBounds_toArray, List.set_cons_zero, List.set_cons_succ]
                        refine wpAnyH_take (i := 7) (v := ?vc7) rfl (by kernel_rfl) (by kernel_rfl) (by kernel_rfl) (fun _ _ _ h => h) (Or.inl ⟨by rfl, ?hc7⟩) (by assumption) ?rc7
                        case hc7 => intro w hSw; (try dsimp only at hSw); go_simp; (try with_reducible rfl)
                        simp only [Act.put, List.getElem_toArray, List.getElem_cons_zero, List.getElem_cons_succ, List.setIfInBounds_toArray, List.set_cons_zero, List.set_cons_succ]
                        refine wpAnyH_take (i := 8) (v := ?vc8) rfl (by kernel_rfl) (by kernel_rfl) (by kernel_rfl) (fun _ _ _ h => h) (Or.inl ⟨by rfl, ?hc8⟩) (by assumption) ?rc8
                        case hc8 => intro w hSw; (try dsimp only at hSw); go_simp; (try with_reducible rfl)
                        simp only [Act.put, List.getElem_toArray, List.getElem_cons_zero, List.getElem_cons_succ, List.setIfInBounds_toArray, List.set_cons_zero, List.set_cons_succ]
                        refine wpAnyH_take (i := 9) (v := ?vc9) rfl (by kernel_rfl) (by kernel_rfl) (by kernel_rfl) (fun _ _ _ h => h) (Or.inl ⟨by rfl, ?hc9⟩) (by assumption) ?rc9
                        case hc9 => intro w hSw; (try dsimp only at hSw); go_simp; (try with_reducible rfl)
                        simp only [Act.put, List.getElem_toArray, List.getElem_cons_zero, List.getElem_cons_succ, List.setIfInBounds_toArray, List.set_cons_zero, List.set_cons_succ]
                        refine wpAnyH_take (i := 10) (v := ?vc10) rfl (by kernel_rfl) (by kernel_rfl) (by kernel_rfl) (fun _ _ _ h => h) (Or.inl ⟨by rfl, ?hc10⟩) (by assumption) ?rc10
                        case hc10 => intro w hSw; (try dsimp only at hSw); go_simp; (try with_reducible rfl)
                        simp only [Act.put, List.getElem_toArray, List.getElem_cons_zero, List.getElem_cons_succ, List.setIfInBounds_toArray, List.set_cons_zero, List.set_cons_succ]
                        refine wpAnyH_take (i := 11) (v := ?vc11) rfl (by kernel_rfl) (by kernel_rfl) (by kernel_rfl) (fun _ _ _ h => h) (Or.inl ⟨by rfl, ?hc11⟩) (by assumption) ?rc11
                        case hc11 => intro w hSw; (try dsimp only at hSw); go_simp; (try with_reducible rfl)
                        simp only [Act.put, List.getElem_toArray, List.getElem_cons_zero, List.getElem_cons_succ, List.setIfInBounds_toArray, List.set_cons_zero, List.set_cons_succ]
                        refine wpAnyH_take (i := 12) (v := ?vc12) rfl (by kernel_rfl) (by kernel_rfl) (by kernel_rfl) (fun _ _ _ h => h) (Or.inl ⟨by rfl, ?hc12⟩) (by assumption) ?rc12
                        case hc12 => intro w hSw; (try dsimp only at hSw); go_simp; (try with_reducible rfl)
                        simp only [Act.put, List.getElem_toArray, List.getElem_cons_zero, List.getElem_cons_succ, List.setIfInBounds_toArray, List.set_cons_zero, List.set_cons_succ]
                        refine wpAnyH_take (i := 13) (v := ?vc13) rfl (by kernel_rfl) (by kernel_rfl) (by kernel_rfl) (fun _ _ _ h => h) (Or.inl ⟨by rfl, ?hc13⟩) (by assumption) ?rc13
                        case hc13 => intro w hSw; (try dsimp only at hSw); go_simp; (try with_reducible rfl)
                        simp only [Act.put, List.getElem_toArray, List.getElem_cons_zero, List.getElem_cons_succ, List.setIfInBounds_toArray, List.set_cons_zero, List.set_cons_succ]
                        refine wpAnyH_take (i := 14) (v := ?vc14) rfl (by kernel_rfl) (by kernel_rfl) (by kernel_rfl) (fun _ _ _ h => h) (Or.inl ⟨by rfl, ?hc14⟩) (by assumption) ?rc14
                        case hc14 => intro w hSw; (try dsimp only at hSw); go_simp; (try with_reducible rfl)
                        simp only [Act.put, List.getElem_toArray, List.getElem_cons_zero, List.getElem_cons_succ, List.setIfInBounds_toArray, List.set_cons_zero, List.set_cons_succ]
                        refine wpAnyH_take (i := 15) (v := ?vc15) rfl (by kernel_rfl) (by kernel_rfl) (by kernel_rfl) (fun _ _ _ h => h) (Or.inl ⟨by rfl, ?hc15⟩) (by assumption) ?rc15
                        case hc15 => intro w hSw; (try dsimp only at hSw); go_simp; (try with_reducible rfl)
                        simp only [Act.put, List.getElem_toArray, List.getElem_cons_zero, List.getElem_cons_succ, List.setIfInBounds_toArray, List.set_cons_zero, List.set_cons_succ]
                        refine wpAnyH_take (i := 16) (v := ?vc16) rfl (by kernel_rfl) (by kernel_rfl) (by kernel_rfl) (fun _ _ _ h => h) (Or.inl ⟨by rfl, ?hc16⟩) (by assumption) ?rc16
                        case hc16 => intro w hSw; (try dsimp only at hSw); go_simp; (try with_reducible rfl)
                        simp only [Act.put, List.getElem_toArray, List.getElem_cons_zero, List.getElem_cons_succ, List.setIfInBounds_toArray, List.set_cons_zero, List.set_cons_succ]
                        refine wpAnyH_take (i := 17) (v := ?vc17) rfl (by kernel_rfl) (by kernel_rfl) (by kernel_rfl) (fun _ _ _ h => h) (Or.inl ⟨by rfl, ?hc17⟩) (by assumption) ?rc17
                        case hc17 => intro w hSw; (try dsimp only at hSw); go_simp; (try with_reducible rfl)
                        simp only [Act.put, List.getElem_toArray, List.getElem_cons_zero, List.getElem_cons_succ, List.setIfInBounds_toArray, List.set_cons_zero, List.set_cons_succ]
                        refine wpAnyH_take (i := 18) (v := ?vc18) rfl (by kernel_rfl) (by kernel_rfl) (by kernel_rfl) (fun _ _ _ h => h) (Or.inl ⟨by rfl, ?hc18⟩) (by assumption) ?rc18
                        case hc18 => intro w hSw; (try dsimp only at hSw); go_simp; (try with_reducible rfl)
                        simp only [Act.put, List.getElem_toArray, List.getElem_cons_zero, List.getElem_cons_succ, List.setIfInBounds_toArray, List.set_cons_zero, List.set_cons_succ]
                        refine wpAnyH_done (by kernel_rfl) ?_ _
                        have hEnd := ext_of hHeld2
                        clear hHeld2
                        go_wp2_with fail
                        have hX2 := HX.out.ext hEnd
                        have HXC2 := Lib.hid ((HZ.out _ hEnd).2.2.2.1)
                        have hEw := HE.out.ext hEnd
                        have HEw := Lib.hid hEw
                        have hblw := Nat.lt_of_lt_of_le hbl' hEnd.size
                        have HX2 := Lib.hid hX2
                        clear hX2 hEw HZ HVN hEnd
                        go_loopw [4] (fun i wr2 => ∃ j : Nat, j ≤ k ∧ i = .int .i64 j ∧ Hid (∀ q (hq : q < j + 1) (hq2 : q < K.length), K[q] ≠ K[k + 1]) ∧ Ext w' wr2) (fun i _ => k - (intOf i).toNat)
                        case atStart =>
                          refine ⟨0, Nat.zero_le _, rfl, fun q hq hq2 => ?_, Chg.refl _ _⟩
                          obtain rfl : q = 0 := by omega
                          exact HN0.out
                        case round =>
                          obtain ⟨j, hj, rfl, hr3, hE3⟩ := hrel
                          have hX3 := HX2.out.ext hE3
                          have hxc := hX3.cell
                          have hxf := hX3.frozen
                          have hxl := hX3.lt
                          clear hX3
                          by_cases hlt3 : j < k
                          · have hji : (j : Int) < (k : Int) := by omega
                            have hjn : (j : Int) < (ni : Int) := by omega
                            have hlj : j < xi.length := by rw [HNI.out]; omega
                            have hkj : j + 1 < K.length := by rw [HKL.out]; omega
                            obtain ⟨b2, o2, e2, hb2, cj⟩ := HIM.out j hlj
                            cases e2
                            have hEj := (hE1.ext HEw.out).ext hE3
                            obtain ⟨_, _, _, _, m0, -, -, -⟩ := FaceIn.ext hEj hb2 cj
                            have k0 := (hE3.cell (p := ⟨bl, ob + k * 3, none⟩) (by exact hblw) id).trans HXC2.out
                            have hbl3 := Nat.lt_of_lt_of_le hblw hE3.size
                            have HWJ := Lib.hid (HKS.out j hlj hkj)
                            clear cj
                            generalize xi[j].modn = qn at *
                            by_cases he : qn = yn
                            · have hxy : (qn.toList == yn.toList) = true := by rw [he]; exact beq_self_eq_true _
                              have HT3 := Lib.hid (HD1.out (j + 1) (by omega) (by rw [HWJ.out, HW.out, he]))
                              clear he
                              go_wp2_with fail
                              go_quiet (fail)
                              go_wp2_with fail
                              go_ret
                              exact ⟨ret_bool HT3.out.symm, hEj.drewN _⟩
                            · have hxy : (qn.toList == yn.toList) = false := by
                                rw [beq_eq_false_iff_ne]
                                exact fun e => he (str_inj e)
                              have HNX : Hid (K[j + 1] ≠ K[k + 1]) := fun e => he (data_inj (by rw [← HWJ.out, ← HW.out, e]))
                              clear he
                              go_wp2_with fail
                              go_quiet (fail)
                              go_wp2_with fail
                              go_roundw
                              case rel =>
                                refine ⟨j + 1, by omega, by go_num, ?_, hE3.drewN _⟩
                                intro q hq hq2
                                by_cases e : q = j + 1
                                · subst e; exact HNX.out
                                · exact hr3.out q (by omega) hq2
                              case measure => simp [intOf]; omega
                          · obtain rfl : j = k := by omega
                            have HT3 := Lib.hid (HD2.out fun q hq => hr3.out q (by omega) (by omega))
                            go_wp2_with fail
                            go_roundw
                            case rel => exact ⟨j + 1, by omega, by go_num, HS.out, HT3.out, HEw.out.ext hE3⟩
                            case measure => simp [intOf]; omega
                  · obtain rfl : k = ni := by omega
                    have HI := Lib.hid (face.all_whole HNI.out hr1.out)
                    have HD := Lib.hid (dist_all HKL.out hr2.out)
                    clear hX hr1 hr2
                    go_wp2_with fail
                    clear hxc hxf hxl
                    go_loopw [5] (fun i wr => ∃ c : Nat, c ≤ nc ∧ i = .int .i64 c ∧ Hid ((xc.take c).all instrB = true) ∧ Ext w0 wr) (fun i _ => nc - (intOf i).toNat)
                    case atStart => exact ⟨0, Nat.zero_le _, rfl, by simp [Hid], hE⟩
                    case round =>
                      clear hE
                      obtain ⟨c, hc, rfl, hr1, hE⟩ := hrel
                      have hX := HX0.out.ext hE
                      have hxc := hX.cell
                      have hxf := hX.frozen
                      have hxl := hX.lt
                      clear hX
                      by_cases hlt2 : c < nc
                      · have hki : (c : Int) < (nc : Int) := by omega
                        have hlk : c < xc.length := by rw [HNC.out]; exact hlt2
                        obtain ⟨bl, ob, rfl, hbl, cl⟩ := HCO.out c hlk
                        have hEr := hE1.ext hE
                        have hbl' := Nat.lt_of_lt_of_le hbl hEr.size
                        obtain ⟨l0, l1, l2, l3, l4⟩ := InsIn5.ext hEr hbl cl
                        have hs := face.all_snoc instrB xc c hlk
                        rw [hr1.out, Bool.true_and] at hs
                        have HBAD := Lib.hid (fun h => HFC.out (face.all_bad hlk h))
                        clear cl hr1
                        generalize xc[c] = y at *
                        obtain ⟨i0, i1, i2, i3, i4⟩ := y
                        simp only at l0 l1 l2 l3 l4
                        have HIN := Lib.hid (fun u : World => rinstr_any i0 i1 i2 i3 i4 u)
                        generalize instrB ⟨i0, i1, i2, i3, i4⟩ = IB at *
                        have HS := Lib.hid hs
                        clear hs
                        go_wp2_with fail
                        refine (HIN.out _).mono ?_
                        rintro e w2 ⟨rfl, hE2⟩
                        have hE3 := hE.ext hE2
                        clear hE2 l0 l1 l2 l3 l4 hxc hxf hxl
                        cases IB
                        · have HT2 := Lib.hid (HBAD.out rfl)
                          go_wp2_with fail
                          go_ret
                          exact ⟨ret_bool HT2.out.symm, hE1.ext hE3⟩
                        · go_wp2_with fail
                          go_roundw
                          case rel => exact ⟨c + 1, by omega, by go_num, HS.out, hE3⟩
                          case measure => simp [intOf]; omega
                      · obtain rfl : c = nc := by omega
                        have HC := Lib.hid (face.all_whole HNC.out hr1.out)
                        have HV := Lib.hid (fun h => HT.out HI.out HD.out HC.out h)
                        clear hr1 HT
                        go_wp2_with fail
                        clear hxc hxf hxl
                        go_loopw [6] (fun i wr => ∃ j : Nat, j ≤ nr ∧ i = .int .i64 j ∧ Hid (∀ q, q < j → relAt xr c q = true) ∧ Ext w0 wr) (fun i _ => nr - (intOf i).toNat)
                        case atStart => exact ⟨0, Nat.zero_le _, rfl, fun q hq => absurd hq (by omega), hE⟩
                        case round =>
                          clear hE
                          obtain ⟨j, hj, rfl, hrel, hE⟩ := hrel
                          have HE := Lib.hid hE
                          have hEr : Ext w wr := hE1.ext hE
                          have hX := HX0.out.ext hE
                          have hxc := hX.cell
                          have hxf := hX.frozen
                          have hxl := hX.lt
                          clear hX hE
                          by_cases hlt3 : j < nr
                          · have hki : (j : Int) < (nr : Int) := by omega
                            have hlk : j < xr.length := by rw [HNR.out]; exact hlt3
                            obtain ⟨bl, ob, rfl, hbl, cl⟩ := HRE.out j hlk
                            have hbl' := Nat.lt_of_lt_of_le hbl hEr.size
                            obtain ⟨l0, l1, l2, l3⟩ := RelIn.ext hEr hbl cl
                            have HBAD := Lib.hid (fun h => HFR.out (rels_bad hlk h))
                            have HGO := Lib.hid (fun h => upto_succ hrel.out h)
                            have HAT := Lib.hid (rel_at (n := (c : Int)) hlk)
                            have hge := prev_ge j hrel.out
                            obtain ⟨hsm, hsn⟩ := HSTR.out _ (List.getElem_mem hlk)
                            have HPR : Hid (∀ j', j = j' + 1 → wr.cell? ⟨bl, ob + j' * 4, none⟩ = some (.int .i64 (prevAt xr j))) := fun j' e => by
                              subst e
                              obtain ⟨b2, o2, e2, hb2, cj⟩ := HRE.out j' (by omega)
                              cases e2
                              rw [prev_succ (by omega)]
                              exact (RelIn.ext hEr hb2 cj).1
                            clear cl hrel
                            generalize xr[j] = y at *
                            obtain ⟨rt, rk, rm, rn⟩ := y
                            simp only at l0 l1 l2 l3 hsm hsn HAT
                            have HNM := Lib.hid (fun (u : World) => rname.name_any rm u (by omega))
                            have HNN := Lib.hid (fun (u : World) => rname.name_any rn u (by omega))
                            clear hsm hsn
                            by_cases hj0 : j = 0
                            · have hq : prevAt xr j = -1 := by rw [hj0]; rfl
                              clear HPR
                              generalize prevAt xr j = q at *
                              have HJ0 := Lib.hid hj0
                              clear hj0
                              go_wp2_with fail
                              have hj0 := HJ0.out
                              obtain ⟨J, hJ⟩ : ∃ J : Int, (j : Int) = J := ⟨_, rfl⟩
                              rw [hJ]
                              have hJ0 : ¬ (0 : Int) < J := by omega
                              have hJ1 : J < (nr : Int) := by omega
                              have hJ2 : J + 1 ≤ 1048577 := by omega
                              have hJ3 : -1 ≤ J := by omega
                              have HJ := Lib.hid hJ
                              have HLT := Lib.hid hlt3
                              clear hJ hj0 hj hlt3 hki hlk
                              by_cases h1 : rt < 0
                              · have HT2 := Lib.hid (HBAD.out (by rw [HAT.out]; rw [decide_eq_false (show ¬ q < rt by omega)]; rfl))
                                go_quiet (fail)
                                go_wp2_with fail
                                go_ret
                                exact ⟨ret_bool HT2.out.symm, hE1.ext ((HE.out.alloc (.cells #[.int .i64 rt, .int .i64 rk, .string rm, .string rn] 100)).drewN _)⟩
                              · by_cases h2 : (c : Int) ≤ rt
                                · have HT2 := Lib.hid (HBAD.out (by rw [HAT.out]; unfold relB; simp only; rw [decide_eq_false (show ¬ rt < (c : Int) by omega), Bool.false_and, Bool.false_and, Bool.false_and, Bool.and_false]))
                                  go_quiet (fail)
                                  go_wp2_with fail
                                  go_ret
                                  exact ⟨ret_bool HT2.out.symm, hE1.ext ((HE.out.alloc (.cells #[.int .i64 rt, .int .i64 rk, .string rm, .string rn] 100)).drewN _)⟩
                                · by_cases h3 : rk < 1
                                  · have HT2 := Lib.hid (HBAD.out (by rw [HAT.out]; unfold relB; simp only; rw [decide_eq_false (show ¬ 1 ≤ rk by omega), Bool.and_false, Bool.false_and, Bool.false_and, Bool.and_false]))
                                    go_quiet (fail)
                                    go_wp2_with fail
                                    go_ret
                                    exact ⟨ret_bool HT2.out.symm, hE1.ext ((HE.out.alloc (.cells #[.int .i64 rt, .int .i64 rk, .string rm, .string rn] 100)).drewN _)⟩
                                  · by_cases h4 : 4 < rk
                                    · have HT2 := Lib.hid (HBAD.out (by rw [HAT.out]; unfold relB; simp only; rw [decide_eq_false (show ¬ rk ≤ 4 by omega), Bool.and_false, Bool.false_and, Bool.and_false]))
                                      go_quiet (fail)
                                      go_wp2_with fail
                                      go_ret
                                      exact ⟨ret_bool HT2.out.symm, hE1.ext ((HE.out.alloc (.cells #[.int .i64 rt, .int .i64 rk, .string rm, .string rn] 100)).drewN _)⟩
                                    · have _ := h3
                                      go_quiet (fail)
                                      obtain ⟨em, hem⟩ : ∃ b, rm.toList.isEmpty = b := ⟨_, rfl⟩
                                      obtain ⟨en, hen⟩ : ∃ b, rn.toList.isEmpty = b := ⟨_, rfl⟩
                                      by_cases hk1 : rk = 1
                                      · subst hk1
                                        have HRB : Hid (relAt xr (c : Int) j = (em && en)) := by
                                          unfold Hid
                                          rw [HAT.out]
                                          unfold relB
                                          simp only
                                          rw [decide_eq_true (show q < rt by omega), decide_eq_true (show rt < (c : Int) by omega), if_pos trivial, hem, hen]
                                          rfl
                                        cases em
                                        · have HT2 := Lib.hid (HBAD.out (by rw [HRB.out]; rfl))
                                          go_wp2_with fail
                                          go_ret
                                          exact ⟨ret_bool HT2.out.symm, hE1.ext ((HE.out.alloc (.cells #[.int .i64 rt, .int .i64 1, .string rm, .string rn] 100)).drewN _)⟩
                                        · cases en
                                          · have HT2 := Lib.hid (HBAD.out (by rw [HRB.out]; rfl))
                                            go_wp2_with fail
                                            go_ret
                                            exact ⟨ret_bool HT2.out.symm, hE1.ext ((HE.out.alloc (.cells #[.int .i64 rt, .int .i64 1, .string rm, .string rn] 100)).drewN _)⟩
                                          · have HT2 := Lib.hid (HGO.out (by rw [HRB.out]; rfl))
                                            go_wp2_with fail
                                            go_roundw
                                            case rel => exact ⟨j + 1, by have := HLT.out; omega, by rw [← HJ.out]; go_num, HT2.out, ((HE.out.alloc (.cells #[.int .i64 rt, .int .i64 1, .string rm, .string rn] 100)).drewN _)⟩
                                            case measure => rw [← HJ.out]; have := HLT.out; simp [intOf]; omega
                                      · have hk2 : (rk == 1) = false := by rw [beq_eq_false_iff_ne]; exact hk1
                                        obtain ⟨nm, hnm⟩ : ∃ b, nameB rm.data.toList = b := ⟨_, rfl⟩
                                        obtain ⟨nn, hnn⟩ : ∃ b, nameB rn.data.toList = b := ⟨_, rfl⟩
                                        have HRB : Hid (relAt xr (c : Int) j = (nm && nn)) := by
                                          unfold Hid
                                          rw [HAT.out]
                                          unfold relB
                                          simp only
                                          rw [decide_eq_true (show q < rt by omega), decide_eq_true (show rt < (c : Int) by omega), decide_eq_true (show 1 ≤ rk by omega), decide_eq_true (show rk ≤ 4 by omega), if_neg hk1, hnm, hnn]
                                          rfl
                                        rw [hnm] at HNM
                                        rw [hnn] at HNN
                                        clear hnm hnn hem hen
                                        go_wp2_with fail
                                        refine (HNM.out _).mono ?_
                                        rintro e w2 ⟨rfl, hE2⟩
                                        have hE4 := ((HE.out.alloc (.cells #[.int .i64 rt, .int .i64 rk, .string rm, .string rn] 100)).drewN _).ext hE2
                                        have hK := ((Blk.made wr #[.int .i64 rt, .int .i64 rk, .string rm, .string rn] 100).drewN _).ext hE2
                                        have hKc := hK.cell
                                        have hKl := hK.lt
                                        clear hE2 hK hxc hxf hxl
                                        cases nm
                                        · have HT2 := Lib.hid (HBAD.out (by rw [HRB.out]; rfl))
                                          go_wp2_with fail
                                          go_ret
                                          exact ⟨ret_bool HT2.out.symm, hE1.ext hE4⟩
                                        · go_wp2_with fail
                                          refine (HNN.out _).mono ?_
                                          rintro e w3 ⟨rfl, hE5⟩
                                          have hE6 := hE4.ext hE5
                                          clear hE5 hKc hKl
                                          cases nn
                                          · have HT2 := Lib.hid (HBAD.out (by rw [HRB.out]; rfl))
                                            go_wp2_with fail
                                            go_ret
                                            exact ⟨ret_bool HT2.out.symm, hE1.ext hE6⟩
                                          · have HT2 := Lib.hid (HGO.out (by rw [HRB.out]; rfl))
                                            go_wp2_with fail
                                            go_roundw
                                            case rel => exact ⟨j + 1, by have := HLT.out; omega, by rw [← HJ.out]; go_num, HT2.out, hE6⟩
                                            case measure => rw [← HJ.out]; have := HLT.out; simp [intOf]; omega
                            · obtain ⟨j', hj'⟩ : ∃ j', j = j' + 1 := ⟨j - 1, by omega⟩
                              have hpc := HPR.out j' hj'
                              clear HPR
                              generalize prevAt xr j = q at *
                              have hjn : (j' : Int) < (nr : Int) := by omega
                              have HJ' := Lib.hid hj'
                              clear hj' hj0
                              go_wp2_with fail
                              have hj' := HJ'.out
                              obtain ⟨J, hJ⟩ : ∃ J : Int, (j : Int) = J := ⟨_, rfl⟩
                              rw [hJ]
                              have hwp : IntKind.i64.wrap (J - 1) = (j' : Int) := (IntWalk.i64_in _ (by omega)).trans (by omega)
                              have hJ0 : (0 : Int) < J := by omega
                              have hJ1 : J < (nr : Int) := by omega
                              have hJ2 : J + 1 ≤ 1048577 := by omega
                              have HJ := Lib.hid hJ
                              have HLT := Lib.hid hlt3
                              clear hJ hj' hj hlt3 hki hlk
                              by_cases h1 : rt < 0
                              · have HT2 := Lib.hid (HBAD.out (by rw [HAT.out]; rw [decide_eq_false (show ¬ q < rt by omega)]; rfl))
                                go_quiet (fail)
                                go_wp2_with fail
                                go_ret
                                exact ⟨ret_bool HT2.out.symm, hE1.ext ((HE.out.alloc (.cells #[.int .i64 rt, .int .i64 rk, .string rm, .string rn] 100)).drewN _)⟩
                              · by_cases h2 : (c : Int) ≤ rt
                                · have HT2 := Lib.hid (HBAD.out (by rw [HAT.out]; unfold relB; simp only; rw [decide_eq_false (show ¬ rt < (c : Int) by omega), Bool.false_and, Bool.false_and, Bool.false_and, Bool.and_false]))
                                  go_quiet (fail)
                                  go_wp2_with fail
                                  go_ret
                                  exact ⟨ret_bool HT2.out.symm, hE1.ext ((HE.out.alloc (.cells #[.int .i64 rt, .int .i64 rk, .string rm, .string rn] 100)).drewN _)⟩
                                · by_cases h5 : rt ≤ q
                                  · have HT2 := Lib.hid (HBAD.out (by rw [HAT.out]; rw [decide_eq_false (show ¬ q < rt by omega)]; rfl))
                                    go_quiet (fail)
                                    go_wp2_with fail
                                    go_ret
                                    exact ⟨ret_bool HT2.out.symm, hE1.ext ((HE.out.alloc (.cells #[.int .i64 rt, .int .i64 rk, .string rm, .string rn] 100)).drewN _)⟩
                                  · by_cases h3 : rk < 1
                                    · have HT2 := Lib.hid (HBAD.out (by rw [HAT.out]; unfold relB; simp only; rw [decide_eq_false (show ¬ 1 ≤ rk by omega), Bool.and_false, Bool.false_and, Bool.false_and, Bool.and_false]))
                                      go_quiet (fail)
                                      go_wp2_with fail
                                      go_ret
                                      exact ⟨ret_bool HT2.out.symm, hE1.ext ((HE.out.alloc (.cells #[.int .i64 rt, .int .i64 rk, .string rm, .string rn] 100)).drewN _)⟩
                                    · by_cases h4 : 4 < rk
                                      · have HT2 := Lib.hid (HBAD.out (by rw [HAT.out]; unfold relB; simp only; rw [decide_eq_false (show ¬ rk ≤ 4 by omega), Bool.and_false, Bool.false_and, Bool.and_false]))
                                        go_quiet (fail)
                                        go_wp2_with fail
                                        go_ret
                                        exact ⟨ret_bool HT2.out.symm, hE1.ext ((HE.out.alloc (.cells #[.int .i64 rt, .int .i64 rk, .string rm, .string rn] 100)).drewN _)⟩
                                      · have _ := h3
                                        go_quiet (fail)
                                        obtain ⟨em, hem⟩ : ∃ b, rm.toList.isEmpty = b := ⟨_, rfl⟩
                                        obtain ⟨en, hen⟩ : ∃ b, rn.toList.isEmpty = b := ⟨_, rfl⟩
                                        by_cases hk1 : rk = 1
                                        · subst hk1
                                          have HRB : Hid (relAt xr (c : Int) j = (em && en)) := by
                                            unfold Hid
                                            rw [HAT.out]
                                            unfold relB
                                            simp only
                                            rw [decide_eq_true (show q < rt by omega), decide_eq_true (show rt < (c : Int) by omega), if_pos trivial, hem, hen]
                                            rfl
                                          cases em
                                          · have HT2 := Lib.hid (HBAD.out (by rw [HRB.out]; rfl))
                                            go_wp2_with fail
                                            go_ret
                                            exact ⟨ret_bool HT2.out.symm, hE1.ext ((HE.out.alloc (.cells #[.int .i64 rt, .int .i64 1, .string rm, .string rn] 100)).drewN _)⟩
                                          · cases en
                                            · have HT2 := Lib.hid (HBAD.out (by rw [HRB.out]; rfl))
                                              go_wp2_with fail
                                              go_ret
                                              exact ⟨ret_bool HT2.out.symm, hE1.ext ((HE.out.alloc (.cells #[.int .i64 rt, .int .i64 1, .string rm, .string rn] 100)).drewN _)⟩
                                            · have HT2 := Lib.hid (HGO.out (by rw [HRB.out]; rfl))
                                              go_wp2_with fail
                                              go_roundw
                                              case rel => exact ⟨j + 1, by have := HLT.out; omega, by rw [← HJ.out]; go_num, HT2.out, ((HE.out.alloc (.cells #[.int .i64 rt, .int .i64 1, .string rm, .string rn] 100)).drewN _)⟩
                                              case measure => rw [← HJ.out]; have := HLT.out; simp [intOf]; omega
                                        · have hk2 : (rk == 1) = false := by rw [beq_eq_false_iff_ne]; exact hk1
                                          obtain ⟨nm, hnm⟩ : ∃ b, nameB rm.data.toList = b := ⟨_, rfl⟩
                                          obtain ⟨nn, hnn⟩ : ∃ b, nameB rn.data.toList = b := ⟨_, rfl⟩
                                          have HRB : Hid (relAt xr (c : Int) j = (nm && nn)) := by
                                            unfold Hid
                                            rw [HAT.out]
                                            unfold relB
                                            simp only
                                            rw [decide_eq_true (show q < rt by omega), decide_eq_true (show rt < (c : Int) by omega), decide_eq_true (show 1 ≤ rk by omega), decide_eq_true (show rk ≤ 4 by omega), if_neg hk1, hnm, hnn]
                                            rfl
                                          rw [hnm] at HNM
                                          rw [hnn] at HNN
                                          clear hnm hnn hem hen
                                          go_wp2_with fail
                                          refine (HNM.out _).mono ?_
                                          rintro e w2 ⟨rfl, hE2⟩
                                          have hE4 := ((HE.out.alloc (.cells #[.int .i64 rt, .int .i64 rk, .string rm, .string rn] 100)).drewN _).ext hE2
                                          have hK := ((Blk.made wr #[.int .i64 rt, .int .i64 rk, .string rm, .string rn] 100).drewN _).ext hE2
                                          have hKc := hK.cell
                                          have hKl := hK.lt
                                          clear hE2 hK hxc hxf hxl
                                          cases nm
                                          · have HT2 := Lib.hid (HBAD.out (by rw [HRB.out]; rfl))
                                            go_wp2_with fail
                                            go_ret
                                            exact ⟨ret_bool HT2.out.symm, hE1.ext hE4⟩
                                          · go_wp2_with fail
                                            refine (HNN.out _).mono ?_
                                            rintro e w3 ⟨rfl, hE5⟩
                                            have hE6 := hE4.ext hE5
                                            clear hE5 hKc hKl
                                            cases nn
                                            · have HT2 := Lib.hid (HBAD.out (by rw [HRB.out]; rfl))
                                              go_wp2_with fail
                                              go_ret
                                              exact ⟨ret_bool HT2.out.symm, hE1.ext hE6⟩
                                            · have HT2 := Lib.hid (HGO.out (by rw [HRB.out]; rfl))
                                              go_wp2_with fail
                                              go_roundw
                                              case rel => exact ⟨j + 1, by have := HLT.out; omega, by rw [← HJ.out]; go_num, HT2.out, hE6⟩
                                              case measure => rw [← HJ.out]; have := HLT.out; simp [intOf]; omega
                          · obtain rfl : j = nr := by omega
                            have HR := Lib.hid (rels_all HNR.out hrel.out)
                            have HV2 := Lib.hid (HV.out HR.out)
                            go_wp2_with fail
                            refine (HPP.out _ hEr).mono ?_
                            rintro e w2 ⟨rfl, hE2⟩
                            clear hxc hxf hxl
                            have hX2 := (HX0.out.ext HE.out).ext hE2
                            have hEw2 := hEr.ext hE2
                            have hxc := hX2.cell
                            have hxf := hX2.frozen
                            have hxl := hX2.lt
                            clear hE2 hEr
                            cases b3
                            · have HT2 := Lib.hid (show B = false by rw [HV2.out]; rfl)
                              go_wp2_with fail
                              go_ret
                              exact ⟨ret_bool HT2.out.symm, hEw2⟩
                            · go_wp2_with fail
                              refine (HPL.out _ hEw2).mono ?_
                              rintro e w3 ⟨rfl, hE3⟩
                              clear hxc hxf hxl
                              have hX3 := hX2.ext hE3
                              have hEw3 := hEw2.ext hE3
                              have hxc := hX3.cell
                              have hxf := hX3.frozen
                              have hxl := hX3.lt
                              clear hE3 hX2 hEw2
                              cases b4
                              · have HT2 := Lib.hid (show B = false by rw [HV2.out]; rfl)
                                go_wp2_with fail
                                go_ret
                                exact ⟨ret_bool HT2.out.symm, hEw3⟩
                              · go_wp2_with fail
                                refine (HPH.out _ hEw3).mono ?_
                                rintro e w4 ⟨rfl, hE4⟩
                                go_wp2_with fail
                                go_ret
                                exact ⟨ret_bool (show _ = B by rw [HV2.out]; simp), hEw3.ext hE4⟩


end rmayo
end Go.Proofs.YtpcihajmcejliabGreatDoor
