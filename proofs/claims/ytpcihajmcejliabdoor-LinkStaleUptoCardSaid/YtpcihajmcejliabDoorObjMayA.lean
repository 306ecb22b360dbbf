/- The walk of the program's May: an object. -/
import Derived.Test.YtpcihajmcejliabDoorObjMayC
namespace Go.Proofs.YtpcihajmcejliabDoor
open Go.RowKit Go.WideMaps Go.Maps
/-- an object that fits -/
structure ObjSmall (x : FObj) : Prop where
  imports : x.imports.length ≤ 1048576
  code : x.code.length ≤ 1048576
  relocs : x.relocs.length ≤ 1048576
  procs : x.procs.length ≤ 1048576
  lows : x.lows.length ≤ 1048576
  highs : x.highs.length ≤ 1048576
  faces : ∀ f ∈ x.face :: x.imports, f.vars.length + f.procs.length ≤ 1048576
  strs : ∀ r ∈ x.relocs, r.modn.size ≤ 1048576 ∧ r.name.size ≤ 1048576
namespace mayo
set_option maxRecDepth 100000 in
set_option maxHeartbeats 16000000 in
theorem may_any (x : FObj) (v : Value) (w : World) (hx : ObjAt w x v) (hs : ObjSmall x) (hev : ErrVar w) (hmv : MaxVar w) :
    Calls Tryd.prog 12 #[v] w fun e w' => e = .returned (.bool (mayObjB x)) ∧ Ext w w' := by
  have hfc := fun (u : World) (hE : Ext w u) => faces_any x v u (ObjAt.ext hE hx) (by have := hs.imports; omega) (fun f hf => by have := hs.faces f hf; unfold maxLen; omega) (hev.ext hE) (hmv.ext hE)
  have hcd := fun (u : World) (hE : Ext w u) => code_any x v u (ObjAt.ext hE hx) (by have := hs.code; omega) (by have := hs.relocs; omega) (fun r hr => by have := hs.strs r hr; omega) (hev.ext hE) (hmv.ext hE)
  obtain ⟨fa, am, fc, cm, ia, ic, ca, cc, ra, rc, pa, pc, la, lc, ha, hc, rfl, -, -, -, -, h4, h5, h6⟩ := hx.ex
  have hpp := fun (u : World) (hE : Ext w u) => places_any pa x.procs _ pc x.code.length u rfl (by have := hs.procs; unfold maxLen; omega) (obj.plc_all h4 hE) (hev.ext hE) (hmv.ext hE)
  have hpl := fun (u : World) (hE : Ext w u) => places_any la x.lows _ lc x.low u rfl (by have := hs.lows; unfold maxLen; omega) (obj.plc_all h5 hE) (hev.ext hE) (hmv.ext hE)
  have hph := fun (u : World) (hE : Ext w u) => places_any ha x.highs _ hc x.high u rfl (by have := hs.highs; unfold maxLen; omega) (obj.plc_all h6 hE) (hev.ext hE) (hmv.ext hE)
  clear hx hs h4 h5 h6 hev hmv
  have hB : mayObjB x = ([x.low, x.high, x.lowF, x.highF].all wordN && (facesB x && codeB x && placesB x.procs x.code.length && placesB x.lows x.low && placesB x.highs x.high)) := rfl
  obtain ⟨B, hBB⟩ : ∃ b, mayObjB x = b := ⟨_, rfl⟩
  obtain ⟨b1, hb1⟩ : ∃ b, facesB x = b := ⟨_, rfl⟩
  obtain ⟨b2, hb2⟩ : ∃ b, codeB x = b := ⟨_, rfl⟩
  rw [hBB, hb1, hb2] at hB
  rw [hBB]
  rw [hb1] at hfc
  rw [hb2] at hcd
  clear hBB hb1 hb2
  obtain ⟨b3, hb3⟩ : ∃ b, placesB x.procs x.code.length = b := ⟨_, rfl⟩
  obtain ⟨b4, hb4⟩ : ∃ b, placesB x.lows x.low = b := ⟨_, rfl⟩
  obtain ⟨b5, hb5⟩ : ∃ b, placesB x.highs x.high = b := ⟨_, rfl⟩
  rw [hb3, hb4, hb5] at hB
  rw [hb3] at hpp
  rw [hb4] at hpl
  rw [hb5] at hph
  clear hb3 hb4 hb5
  obtain ⟨xf, xi, xc, xr, op, ol, oh, lo, hi, lf, hf⟩ := x
  simp only at *
  obtain ⟨n1, hn1⟩ : ∃ n, xf.vars.length = n := ⟨_, rfl⟩
  obtain ⟨n2, hn2⟩ : ∃ n, xf.procs.length = n := ⟨_, rfl⟩
  obtain ⟨xn, hxn⟩ : ∃ n, xf.modn = n := ⟨_, rfl⟩
  obtain ⟨ni, hni⟩ : ∃ n, xi.length = n := ⟨_, rfl⟩
  obtain ⟨nc, hnc⟩ : ∃ n, xc.length = n := ⟨_, rfl⟩
  obtain ⟨nr, hnr⟩ : ∃ n, xr.length = n := ⟨_, rfl⟩
  obtain ⟨np, hnp⟩ : ∃ n, op.length = n := ⟨_, rfl⟩
  obtain ⟨nl, hnl⟩ : ∃ n, ol.length = n := ⟨_, rfl⟩
  obtain ⟨nh, hnh⟩ : ∃ n, oh.length = n := ⟨_, rfl⟩
  rw [hn1, hn2, hxn, hni, hnc, hnr, hnp, hnl, hnh] at hfc hcd ⊢
  rw [hnp, hnc] at hpp
  rw [hnl] at hpl
  rw [hnh] at hph
  clear hn1 hn2 hxn hni hnc hnr hnp hnl hnh
  have HFC := Lib.hid hfc
  have HCD := Lib.hid hcd
  have HPP := Lib.hid hpp
  have HPL := Lib.hid hpl
  have HPH := Lib.hid hph
  have HF := Lib.hid (fun h : [lo, hi, lf, hf].all wordN = false => show B = false by rw [hB, h]; rfl)
  have HT := Lib.hid (fun h : [lo, hi, lf, hf].all wordN = true => show B = (b1 && b2 && b3 && b4 && b5) by rw [hB, h]; rfl)
  clear hB hfc hcd hpp hpl hph
  have hX0 : Blk (w.alloc (.cells #[.string xn, .slice fa n1 am, .slice fc n2 cm, .slice ia ni ic, .slice ca nc cc, .slice ra nr rc, .slice pa np pc, .slice la nl lc, .slice ha nh hc, .int .i64 lo, .int .i64 hi, .int .i64 lf, .int .i64 hf] 39)) w.heap.size #[.string xn, .slice fa n1 am, .slice fc n2 cm, .slice ia ni ic, .slice ca nc cc, .slice ra nr rc, .slice pa np pc, .slice la nl lc, .slice ha nh hc, .int .i64 lo, .int .i64 hi, .int .i64 lf, .int .i64 hf] 39 := Blk.made _ _ _
  have hE0 : Ext w (w.alloc (.cells #[.string xn, .slice fa n1 am, .slice fc n2 cm, .slice ia ni ic, .slice ca nc cc, .slice ra nr rc, .slice pa np pc, .slice la nl lc, .slice ha nh hc, .int .i64 lo, .int .i64 hi, .int .i64 lf, .int .i64 hf] 39)) := (Chg.refl _ _).alloc _
  have hxc := hX0.cell
  have hxf := hX0.frozen
  have hxl := hX0.lt
  go_enter Tryd.func12, Tryd.ntmps12
  go_wp2_with fail
  generalize w.alloc (.cells #[.string xn, .slice fa n1 am, .slice fc n2 cm, .slice ia ni ic, .slice ca nc cc, .slice ra nr rc, .slice pa np pc, .slice la nl lc, .slice ha nh hc, .int .i64 lo, .int .i64 hi, .int .i64 lf, .int .i64 hf] 39) = w0 at *
  go_loopw [14] (fun i wr => ∃ k : Nat, k ≤ 4 ∧ i = .int .i64 k ∧ Hid (([lo, hi, lf, hf].take k).all wordN = true) ∧ wr = w0) (fun i _ => 4 - (intOf i).toNat)
  case atStart => exact ⟨0, Nat.zero_le _, rfl, by simp [Hid], rfl⟩
  case round =>
    obtain ⟨k, hk, rfl, hrel, rfl⟩ := hrel
    have HS := Lib.hid (fun (n : Int) (m : Nat) (hm : k = m) (hl : m < [lo, hi, lf, hf].length) (e : [lo, hi, lf, hf][m] = n) => (show (wordN n = false → B = false) ∧ (wordN n = true → ([lo, hi, lf, hf].take (m + 1)).all wordN = true) from by
      subst hm
      subst e
      refine ⟨fun h => HF.out (face.all_bad hl h), fun h => ?_⟩
      rw [face.all_snoc wordN _ _ hl, hrel.out, h]
      rfl))
    by_cases hlt : k < 4
    · have h4 : k = 0 ∨ k = 1 ∨ k = 2 ∨ k = 3 := by omega
      rcases h4 with rfl | rfl | rfl | rfl
      · have HN := Lib.hid (HS.out lo 0 rfl (by show 0 < 4; decide) rfl)
        clear HS hrel
        have hidx : (Instr.index 66 (.agg #[.int .i64 lo, .int .i64 hi, .int .i64 lf, .int .i64 hf]) (.int .i64 0)).run Tryd.prog wr = .ok (.int .i64 lo) wr := by kernel_rfl
        by_cases h0 : lo < 0
        · have HT2 := Lib.hid (HN.out.1 (by unfold wordN; rw [decide_eq_false (show ¬ 0 ≤ lo by omega)]; rfl))
          go_wp2_with fail
          go_ret
          exact ⟨ret_bool HT2.out.symm, hE0⟩
        · by_cases h1 : 20000 < lo
          · have HT2 := Lib.hid (HN.out.1 (by unfold wordN; rw [decide_eq_false (show ¬ lo ≤ 20000 by omega), Bool.and_false]))
            go_wp2_with fail
            go_ret
            exact ⟨ret_bool HT2.out.symm, hE0⟩
          · have HT2 := Lib.hid (HN.out.2 (by unfold wordN; rw [decide_eq_true (show 0 ≤ lo by omega), decide_eq_true (show lo ≤ 20000 by omega)]; rfl))
            go_wp2_with fail
            go_roundw
            case rel => exact ⟨1, by omega, rfl, HT2.out, by trivial⟩
            case measure => decide
      · have HN := Lib.hid (HS.out hi 1 rfl (by show 1 < 4; decide) rfl)
        clear HS hrel
        have hidx : (Instr.index 66 (.agg #[.int .i64 lo, .int .i64 hi, .int .i64 lf, .int .i64 hf]) (.int .i64 1)).run Tryd.prog wr = .ok (.int .i64 hi) wr := by kernel_rfl
        by_cases h0 : hi < 0
        · have HT2 := Lib.hid (HN.out.1 (by unfold wordN; rw [decide_eq_false (show ¬ 0 ≤ hi by omega)]; rfl))
          go_wp2_with fail
          go_ret
          exact ⟨ret_bool HT2.out.symm, hE0⟩
        · by_cases h1 : 20000 < hi
          · have HT2 := Lib.hid (HN.out.1 (by unfold wordN; rw [decide_eq_false (show ¬ hi ≤ 20000 by omega), Bool.and_false]))
            go_wp2_with fail
            go_ret
            exact ⟨ret_bool HT2.out.symm, hE0⟩
          · have HT2 := Lib.hid (HN.out.2 (by unfold wordN; rw [decide_eq_true (show 0 ≤ hi by omega), decide_eq_true (show hi ≤ 20000 by omega)]; rfl))
            go_wp2_with fail
            go_roundw
            case rel => exact ⟨2, by omega, rfl, HT2.out, by trivial⟩
            case measure => decide
      · have HN := Lib.hid (HS.out lf 2 rfl (by show 2 < 4; decide) rfl)
        clear HS hrel
        have hidx : (Instr.index 66 (.agg #[.int .i64 lo, .int .i64 hi, .int .i64 lf, .int .i64 hf]) (.int .i64 2)).run Tryd.prog wr = .ok (.int .i64 lf) wr := by kernel_rfl
        by_cases h0 : lf < 0
        · have HT2 := Lib.hid (HN.out.1 (by unfold wordN; rw [decide_eq_false (show ¬ 0 ≤ lf by omega)]; rfl))
          go_wp2_with fail
          go_ret
          exact ⟨ret_bool HT2.out.symm, hE0⟩
        · by_cases h1 : 20000 < lf
          · have HT2 := Lib.hid (HN.out.1 (by unfold wordN; rw [decide_eq_false (show ¬ lf ≤ 20000 by omega), Bool.and_false]))
            go_wp2_with fail
            go_ret
            exact ⟨ret_bool HT2.out.symm, hE0⟩
          · have HT2 := Lib.hid (HN.out.2 (by unfold wordN; rw [decide_eq_true (show 0 ≤ lf by omega), decide_eq_true (show lf ≤ 20000 by omega)]; rfl))
            go_wp2_with fail
            go_roundw
            case rel => exact ⟨3, by omega, rfl, HT2.out, by trivial⟩
            case measure => decide
      · have HN := Lib.hid (HS.out hf 3 rfl (by show 3 < 4; decide) rfl)
        clear HS hrel
        have hidx : (Instr.index 66 (.agg #[.int .i64 lo, .int .i64 hi, .int .i64 lf, .int .i64 hf]) (.int .i64 3)).run Tryd.prog wr = .ok (.int .i64 hf) wr := by kernel_rfl
        by_cases h0 : hf < 0
        · have HT2 := Lib.hid (HN.out.1 (by unfold wordN; rw [decide_eq_false (show ¬ 0 ≤ hf by omega)]; rfl))
          go_wp2_with fail
          go_ret
          exact ⟨ret_bool HT2.out.symm, hE0⟩
        · by_cases h1 : 20000 < hf
          · have HT2 := Lib.hid (HN.out.1 (by unfold wordN; rw [decide_eq_false (show ¬ hf ≤ 20000 by omega), Bool.and_false]))
            go_wp2_with fail
            go_ret
            exact ⟨ret_bool HT2.out.symm, hE0⟩
          · have HT2 := Lib.hid (HN.out.2 (by unfold wordN; rw [decide_eq_true (show 0 ≤ hf by omega), decide_eq_true (show hf ≤ 20000 by omega)]; rfl))
            go_wp2_with fail
            go_roundw
            case rel => exact ⟨4, by omega, rfl, HT2.out, by trivial⟩
            case measure => decide
    · obtain rfl : k = 4 := by omega
      have HV := Lib.hid (HT.out hrel.out)
      clear HS hrel HF HT
      have hEw := hE0
      go_wp2_with fail
      refine (HFC.out _ hE0).mono ?_
      rintro e w2 ⟨rfl, hE⟩
      have hE2 := hE0.ext hE
      have hX2 := hX0.ext hE
      clear hE hxc hxf hxl
      have hxc := hX2.cell
      have hxf := hX2.frozen
      have hxl := hX2.lt
      cases b1
      · have HT2 := Lib.hid (show B = false by rw [HV.out]; rfl)
        go_wp2_with fail
        go_ret
        exact ⟨ret_bool HT2.out.symm, hE2⟩
      · go_wp2_with fail
        refine (HCD.out _ hE2).mono ?_
        rintro e w3 ⟨rfl, hE⟩
        have hE3 := hE2.ext hE
        have hX3 := hX2.ext hE
        clear hE hxc hxf hxl
        have hxc := hX3.cell
        have hxf := hX3.frozen
        have hxl := hX3.lt
        cases b2
        · have HT2 := Lib.hid (show B = false by rw [HV.out]; simp)
          go_wp2_with fail
          go_ret
          exact ⟨ret_bool HT2.out.symm, hE3⟩
        · go_wp2_with fail
          refine (HPP.out _ hE3).mono ?_
          rintro e w4 ⟨rfl, hE⟩
          have hE4 := hE3.ext hE
          have hX4 := hX3.ext hE
          clear hE hxc hxf hxl
          have hxc := hX4.cell
          have hxf := hX4.frozen
          have hxl := hX4.lt
          cases b3
          · have HT2 := Lib.hid (show B = false by rw [HV.out]; simp)
            go_wp2_with fail
            go_ret
            exact ⟨ret_bool HT2.out.symm, hE4⟩
          · go_wp2_with fail
            refine (HPL.out _ hE4).mono ?_
            rintro e w5 ⟨rfl, hE⟩
            have hE5 := hE4.ext hE
            have hX5 := hX4.ext hE
            clear hE hxc hxf hxl
            have hxc := hX5.cell
            have hxf := hX5.frozen
            have hxl := hX5.lt
            cases b4
            · have HT2 := Lib.hid (show B = false by rw [HV.out]; simp)
              go_wp2_with fail
              go_ret
              exact ⟨ret_bool HT2.out.symm, hE5⟩
            · go_wp2_with fail
              refine (HPH.out _ hE5).mono ?_
              rintro e w6 ⟨rfl, hE⟩
              have hE6 := hE5.ext hE
              have hX6 := hX5.ext hE
              clear hE hxc hxf hxl
              have hxc := hX6.cell
              have hxf := hX6.frozen
              have hxl := hX6.lt
              go_wp2_with fail
              go_ret
              exact ⟨ret_bool (show _ = B by rw [HV.out]; simp), hE6⟩
end mayo
end Go.Proofs.YtpcihajmcejliabDoor
