/- The walk of the program's May: an object's orders and relocs. -/
import Derived.Test.YtpcihajmcejliabDoorObjMayF
import Derived.Test.YtpcihajmcejliabDoorMachMay
namespace Go.Proofs.YtpcihajmcejliabDoor
open Go.RowKit Go.WideMaps Go.Maps
namespace mayo
theorem name_empty {s : ByteArray} (h : s.toList.isEmpty = true) : nameB s.data.toList = false := by
  have h1 : s.data.toList = [] := by
    rw [← Lib.toList_data]
    exact List.isEmpty_iff.1 h
  rw [h1]
  rfl
theorem instr_bare {op a b c n : Int} (h : op = 8 ∨ op = 9 ∨ op = 11) : instrB ⟨op, a, b, c, n⟩ = orderB ⟨op, a, b, c, 0⟩ 1 := by
  unfold instrB bareN
  rw [if_pos h]
theorem instr_full {op a b c n : Int} (h : ¬ (op = 8 ∨ op = 9 ∨ op = 11)) : instrB ⟨op, a, b, c, n⟩ = orderB ⟨op, a, b, c, n⟩ 1 := by
  unfold instrB bareN
  rw [if_neg h]
theorem instr_any (op a b c n m : Int) (w : World) (hm : m = bareN ⟨op, a, b, c, n⟩) :
    Calls Tryd.prog 17 #[.agg #[.int .i64 op, .int .i64 a, .int .i64 b, .int .i64 c, .int .i64 m], .int .i64 1] w fun e w' => e = .returned (.bool (instrB ⟨op, a, b, c, n⟩)) ∧ Ext w w' := by
  subst hm
  refine (mof.order_any ⟨op, a, b, c, bareN ⟨op, a, b, c, n⟩⟩ 1 w).mono ?_
  rintro e w' ⟨rfl, h⟩
  exact ⟨rfl, Below.toExt h⟩
set_option maxRecDepth 100000 in
set_option maxHeartbeats 16000000 in
theorem code_any (x : FObj) (v : Value) (w : World) (hx : ObjAt w x v) (hmaxc : x.code.length ≤ 9223372036854775806) (hmaxr : x.relocs.length ≤ 9223372036854775806) (hstr : ∀ r ∈ x.relocs, r.modn.size ≤ 9223372036854775807 ∧ r.name.size ≤ 9223372036854775807) (hev : ErrVar w) (hmv : MaxVar w) :
    Calls Tryd.prog 19 #[v] w fun e w' => e = .returned (.bool (codeB x)) ∧ Ext w w' := by
  obtain ⟨fa, am, fc, cm, ia, ic, ca, cc, ra, rc, pa, pc, la, lc, ha, hc, rfl, -, -, h2, h3, -⟩ := hx.ex
  clear hx
  unfold codeB
  obtain ⟨xf, xi, xc, xr, op, ol, oh, lo, hi, lf, hf⟩ := x
  simp only at *
  obtain ⟨n1, hn1⟩ : ∃ n, xf.vars.length = n := ⟨_, rfl⟩
  obtain ⟨n2, hn2⟩ : ∃ n, xf.procs.length = n := ⟨_, rfl⟩
  obtain ⟨xn, hxn⟩ : ∃ n, xf.modn = n := ⟨_, rfl⟩
  obtain ⟨ni, hni⟩ : ∃ n, xi.length = n := ⟨_, rfl⟩
  obtain ⟨nc, hnc⟩ : ∃ n, xc.length = n := ⟨_, rfl⟩
  obtain ⟨nr, hnr⟩ : ∃ n, xr.length = n := ⟨_, rfl⟩
  obtain ⟨np, hnp⟩ : ∃ n, op.length = n := ⟨_, rfl⟩
  obtain ⟨nl, hnl⟩ : ∃ n, ol.length = n := ⟨_, rfl⟩
  obtain ⟨nh, hnh⟩ : ∃ n, oh.length = n := ⟨_, rfl⟩
  rw [hnc] at hmaxc
  rw [hnr] at hmaxr
  rw [hn1, hn2, hxn, hni, hnc, hnr, hnp, hnl, hnh]
  have HNC := Lib.hid hnc
  have HNR := Lib.hid hnr
  have HC := Lib.hid h2
  have HR := Lib.hid h3
  have HSTR := Lib.hid hstr
  clear hn1 hn2 hxn hni hnc hnr hnp hnl hnh h2 h3 hstr
  generalize hB : (xc.all instrB && relsB xr nc && decide (nc ≤ 20000)) = B
  have HF1 := Lib.hid (fun h : xc.all instrB = false => show B = false by rw [← hB, h]; rfl)
  have HF2 := Lib.hid (fun h : relsB xr nc = false => show B = false by rw [← hB, h, Bool.and_false]; rfl)
  have HT := Lib.hid (fun (h : xc.all instrB = true) (h2 : relsB xr nc = true) => show B = decide (nc ≤ 20000) by rw [← hB, h, h2]; rfl)
  clear hB
  have hX0 : Blk (w.alloc (.cells #[.string xn, .slice fa n1 am, .slice fc n2 cm, .slice ia ni ic, .slice ca nc cc, .slice ra nr rc, .slice pa np pc, .slice la nl lc, .slice ha nh hc, .int .i64 lo, .int .i64 hi, .int .i64 lf, .int .i64 hf] 39)) w.heap.size #[.string xn, .slice fa n1 am, .slice fc n2 cm, .slice ia ni ic, .slice ca nc cc, .slice ra nr rc, .slice pa np pc, .slice la nl lc, .slice ha nh hc, .int .i64 lo, .int .i64 hi, .int .i64 lf, .int .i64 hf] 39 := Blk.made _ _ _
  have hE0 : Ext w (w.alloc (.cells #[.string xn, .slice fa n1 am, .slice fc n2 cm, .slice ia ni ic, .slice ca nc cc, .slice ra nr rc, .slice pa np pc, .slice la nl lc, .slice ha nh hc, .int .i64 lo, .int .i64 hi, .int .i64 lf, .int .i64 hf] 39)) := (Chg.refl _ _).alloc _
  have hxc := hX0.cell
  have hxf := hX0.frozen
  have hxl := hX0.lt
  have HEV := Lib.hid (fun (w' : World) (h : Ext w w') => hev.ext h)
  have HMV := Lib.hid (fun (w' : World) (h : Ext w w') => hmv.ext h)
  clear hev hmv
  go_enter Tryd.func19, Tryd.ntmps19
  go_wp2_with fail
  generalize w.alloc (.cells #[.string xn, .slice fa n1 am, .slice fc n2 cm, .slice ia ni ic, .slice ca nc cc, .slice ra nr rc, .slice pa np pc, .slice la nl lc, .slice ha nh hc, .int .i64 lo, .int .i64 hi, .int .i64 lf, .int .i64 hf] 39) = w0 at *
  have HX0 := Lib.hid hX0
  clear hX0 hxc hxf hxl
  go_loopw [12] (fun i wr => ∃ k : Nat, k ≤ nc ∧ i = .int .i64 k ∧ Hid ((xc.take k).all instrB = true) ∧ Ext w0 wr) (fun i _ => nc - (intOf i).toNat)
  case atStart => exact ⟨0, Nat.zero_le _, rfl, by simp [Hid], Chg.refl _ _⟩
  case round =>
    obtain ⟨k, hk, rfl, hrel, hE⟩ := hrel
    have hEr : Ext w wr := hE0.ext hE
    by_cases hlt : k < nc
    · have hki : (k : Int) < (nc : Int) := by omega
      have hlk : k < xc.length := by rw [HNC.out]; exact hlt
      obtain ⟨bl, ol, rfl, hbl, cl⟩ := HC.out k hlk
      have hbl' := Nat.lt_of_lt_of_le hbl hEr.size
      obtain ⟨l0, l1, l2, l3, l4⟩ := InsIn5.ext hEr hbl cl
      have hs := face.all_snoc instrB xc k hlk
      rw [hrel.out, Bool.true_and] at hs
      have HBAD := Lib.hid (fun h => HF1.out (face.all_bad hlk h))
      clear cl hrel
      generalize xc[k] = y at *
      obtain ⟨i0, i1, i2, i3, i4⟩ := y
      simp only at l0 l1 l2 l3 l4
      have HS := Lib.hid hs
      clear hs
      have HI := Lib.hid (fun (m : Int) (u : World) (h : m = bareN ⟨i0, i1, i2, i3, i4⟩) => instr_any i0 i1 i2 i3 i4 m u h)
      obtain ⟨IB, hIB⟩ : ∃ b, instrB ⟨i0, i1, i2, i3, i4⟩ = b := ⟨_, rfl⟩
      rw [hIB] at HS HBAD HI
      clear hIB
      by_cases h8 : i0 = 8
      · subst h8
        go_wp2_with fail
        refine (HI.out _ _ (by unfold bareN; rw [if_pos (.inl rfl)])).mono ?_
        rintro e w2 ⟨rfl, hE2⟩
        have hE3 := (hE.alloc _).ext hE2
        clear hE2 l0 l1 l2 l3 l4
        cases IB
        · have HT2 := Lib.hid (HBAD.out rfl)
          go_wp2_with fail
          go_ret
          exact ⟨ret_bool HT2.out.symm, hE0.ext hE3⟩
        · go_wp2_with fail
          go_roundw
          case rel => exact ⟨k + 1, by omega, by go_num, HS.out, hE3⟩
          case measure => simp [intOf]; omega
      · by_cases h9 : i0 = 9
        · subst h9
          go_wp2_with fail
          refine (HI.out _ _ (by unfold bareN; rw [if_pos (.inr (.inl rfl))])).mono ?_
          rintro e w2 ⟨rfl, hE2⟩
          have hE3 := (hE.alloc _).ext hE2
          clear hE2 l0 l1 l2 l3 l4
          cases IB
          · have HT2 := Lib.hid (HBAD.out rfl)
            go_wp2_with fail
            go_ret
            exact ⟨ret_bool HT2.out.symm, hE0.ext hE3⟩
          · go_wp2_with fail
            go_roundw
            case rel => exact ⟨k + 1, by omega, by go_num, HS.out, hE3⟩
            case measure => simp [intOf]; omega
        · by_cases h11 : i0 = 11
          · subst h11
            go_wp2_with fail
            refine (HI.out _ _ (by unfold bareN; rw [if_pos (.inr (.inr rfl))])).mono ?_
            rintro e w2 ⟨rfl, hE2⟩
            have hE3 := (hE.alloc _).ext hE2
            clear hE2 l0 l1 l2 l3 l4
            cases IB
            · have HT2 := Lib.hid (HBAD.out rfl)
              go_wp2_with fail
              go_ret
              exact ⟨ret_bool HT2.out.symm, hE0.ext hE3⟩
            · go_wp2_with fail
              go_roundw
              case rel => exact ⟨k + 1, by omega, by go_num, HS.out, hE3⟩
              case measure => simp [intOf]; omega
          · have hne : ¬ (i0 = 8 ∨ i0 = 9 ∨ i0 = 11) := by omega
            go_wp2_with fail
            refine (HI.out _ _ (by unfold bareN; rw [if_neg hne])).mono ?_
            rintro e w2 ⟨rfl, hE2⟩
            have hE3 := (hE.alloc _).ext hE2
            clear hE2 l0 l1 l2 l3 l4
            cases IB
            · have HT2 := Lib.hid (HBAD.out rfl)
              go_wp2_with fail
              go_ret
              exact ⟨ret_bool HT2.out.symm, hE0.ext hE3⟩
            · go_wp2_with fail
              go_roundw
              case rel => exact ⟨k + 1, by omega, by go_num, HS.out, hE3⟩
              case measure => simp [intOf]; omega
    · obtain rfl : k = nc := by omega
      have HA := Lib.hid (face.all_whole HNC.out hrel.out)
      clear hrel
      have hX := HX0.out.ext hE
      have hxc := hX.cell
      have hxf := hX.frozen
      have hxl := hX.lt
      go_wp2_with fail
      clear hxc hxf hxl hX
      go_loopw [30, 5] (fun s30 s5 wr => ∃ j : Nat, j ≤ nr ∧ s30 = .int .i64 j ∧ s5 = .int .i64 (prevAt xr j) ∧ Hid (∀ q, q < j → relAt xr k q = true) ∧ Ext w0 wr) (fun s30 _ _ => nr - (intOf s30).toNat)
      case atStart => exact ⟨0, Nat.zero_le _, rfl, rfl, fun q hq => absurd hq (by omega), hE⟩
      case round =>
        clear hE hEr
        obtain ⟨j, hj, rfl, rfl, hrel, hE⟩ := hrel
        have hEr : Ext w wr := hE0.ext hE
        by_cases hlt2 : j < nr
        · have hki : (j : Int) < (nr : Int) := by omega
          have hlk : j < xr.length := by rw [HNR.out]; exact hlt2
          obtain ⟨bl, ol, rfl, hbl, cl⟩ := HR.out j hlk
          have hbl' := Nat.lt_of_lt_of_le hbl hEr.size
          obtain ⟨l0, l1, l2, l3⟩ := RelIn.ext hEr hbl cl
          have HBAD := Lib.hid (fun h => HF2.out (rels_bad hlk h))
          have HGO := Lib.hid (fun h => upto_succ hrel.out h)
          have HAT := Lib.hid (rel_at (n := (k : Int)) hlk)
          have HPS := Lib.hid (prev_succ hlk)
          obtain ⟨hsm, hsn⟩ := HSTR.out _ (List.getElem_mem hlk)
          clear cl hrel
          generalize xr[j] = y at *
          obtain ⟨rt, rk, rm, rn⟩ := y
          simp only at l0 l1 l2 l3 hsm hsn HAT HPS
          have HNM := Lib.hid (fun (u : World) h1 h2 => name.isname_any rm u hsm h1 h2)
          have HNN := Lib.hid (fun (u : World) h1 h2 => name.isname_any rn u hsn h1 h2)
          generalize prevAt xr j = q at *
          have hX := HX0.out.ext hE
          have hxc := hX.cell
          have hxf := hX.frozen
          have hxl := hX.lt
          have hE3 := hE.alloc (.cells #[.int .i64 rt, .int .i64 rk, .string rm, .string rn] 56)
          have HE3 := Lib.hid hE3
          clear hE3 hX
          by_cases h1 : rt ≤ q
          · have HT2 := Lib.hid (HBAD.out (by rw [HAT.out]; rw [decide_eq_false (show ¬ q < rt by omega)]; rfl))
            go_wp2_with fail
            go_ret
            exact ⟨ret_bool HT2.out.symm, hE0.ext HE3.out⟩
          · by_cases h2 : (k : Int) ≤ rt
            · have HT2 := Lib.hid (HBAD.out (by rw [HAT.out]; unfold relB; simp only; rw [decide_eq_false (show ¬ rt < (k : Int) by omega), Bool.false_and, Bool.false_and, Bool.false_and, Bool.and_false]))
              go_wp2_with fail
              go_ret
              exact ⟨ret_bool HT2.out.symm, hE0.ext HE3.out⟩
            · by_cases h3 : rk < 1
              · have HT2 := Lib.hid (HBAD.out (by rw [HAT.out]; unfold relB; simp only; rw [decide_eq_false (show ¬ 1 ≤ rk by omega), Bool.and_false, Bool.false_and, Bool.false_and, Bool.and_false]))
                go_wp2_with fail
                go_ret
                exact ⟨ret_bool HT2.out.symm, hE0.ext HE3.out⟩
              · by_cases h4 : 4 < rk
                · have HT2 := Lib.hid (HBAD.out (by rw [HAT.out]; unfold relB; simp only; rw [decide_eq_false (show ¬ rk ≤ 4 by omega), Bool.and_false, Bool.false_and, Bool.and_false]))
                  go_wp2_with fail
                  go_ret
                  exact ⟨ret_bool HT2.out.symm, hE0.ext HE3.out⟩
                · obtain ⟨em, hem⟩ : ∃ b, rm.toList.isEmpty = b := ⟨_, rfl⟩
                  obtain ⟨en, hen⟩ : ∃ b, rn.toList.isEmpty = b := ⟨_, rfl⟩
                  by_cases hk1 : rk = 1
                  · subst hk1
                    have HRB : Hid (relAt xr (k : Int) j = (em && en)) := by
                      unfold Hid
                      rw [HAT.out]
                      unfold relB
                      simp only
                      rw [decide_eq_true (show q < rt by omega), decide_eq_true (show rt < (k : Int) by omega), if_pos trivial, hem, hen]
                      rfl
                    cases em
                    · have HT2 := Lib.hid (HBAD.out (by rw [HRB.out]; rfl))
                      go_wp2_with fail
                      go_ret
                      exact ⟨ret_bool HT2.out.symm, hE0.ext HE3.out⟩
                    · cases en
                      · have HT2 := Lib.hid (HBAD.out (by rw [HRB.out]; rfl))
                        go_wp2_with fail
                        go_ret
                        exact ⟨ret_bool HT2.out.symm, hE0.ext HE3.out⟩
                      · have HT2 := Lib.hid (HGO.out (by rw [HRB.out]; rfl))
                        go_wp2_with fail
                        go_roundw
                        case rel => exact ⟨j + 1, by omega, by go_num, by rw [HPS.out], HT2.out, HE3.out⟩
                        case measure => simp [intOf]; omega
                  · have hk2 : (rk == 1) = false := by rw [beq_eq_false_iff_ne]; exact hk1
                    obtain ⟨nm, hnm⟩ : ∃ b, nameB rm.data.toList = b := ⟨_, rfl⟩
                    obtain ⟨nn, hnn⟩ : ∃ b, nameB rn.data.toList = b := ⟨_, rfl⟩
                    have HRB : Hid (relAt xr (k : Int) j = (nm && nn)) := by
                      unfold Hid
                      rw [HAT.out]
                      unfold relB
                      simp only
                      rw [decide_eq_true (show q < rt by omega), decide_eq_true (show rt < (k : Int) by omega), decide_eq_true (show 1 ≤ rk by omega), decide_eq_true (show rk ≤ 4 by omega), if_neg hk1, hnm, hnn]
                      rfl
                    have HEM := Lib.hid (fun h : em = true => show nm = false by rw [← hnm]; exact name_empty (hem.trans h))
                    rw [hnm] at HNM
                    rw [hnn] at HNN
                    clear hnm hnn
                    cases em
                    · cases en
                      · go_wp2_with fail
                        refine (HNM.out _ (HEV.out _ (hE0.ext HE3.out)) (HMV.out _ (hE0.ext HE3.out))).mono ?_
                        rintro e w2 ⟨rfl, hE2⟩
                        have hE4 := HE3.out.ext hE2
                        have hK := (Blk.made wr #[.int .i64 rt, .int .i64 rk, .string rm, .string rn] 56).ext hE2
                        have hKc := hK.cell
                        have hKl := hK.lt
                        clear hE2 hK hxc hxf hxl
                        cases nm
                        · have HT2 := Lib.hid (HBAD.out (by rw [HRB.out]; rfl))
                          go_wp2_with fail
                          go_ret
                          exact ⟨ret_bool HT2.out.symm, hE0.ext hE4⟩
                        · go_wp2_with fail
                          refine (HNN.out _ (HEV.out _ (hE0.ext hE4)) (HMV.out _ (hE0.ext hE4))).mono ?_
                          rintro e w3 ⟨rfl, hE5⟩
                          have hE6 := hE4.ext hE5
                          clear hE5 hKc hKl
                          cases nn
                          · have HT2 := Lib.hid (HBAD.out (by rw [HRB.out]; rfl))
                            go_wp2_with fail
                            go_ret
                            exact ⟨ret_bool HT2.out.symm, hE0.ext hE6⟩
                          · have HT2 := Lib.hid (HGO.out (by rw [HRB.out]; rfl))
                            go_wp2_with fail
                            go_roundw
                            case rel => exact ⟨j + 1, by omega, by go_num, by rw [HPS.out], HT2.out, hE6⟩
                            case measure => simp [intOf]; omega
                      · go_wp2_with fail
                        refine (HNM.out _ (HEV.out _ (hE0.ext HE3.out)) (HMV.out _ (hE0.ext HE3.out))).mono ?_
                        rintro e w2 ⟨rfl, hE2⟩
                        have hE4 := HE3.out.ext hE2
                        have hK := (Blk.made wr #[.int .i64 rt, .int .i64 rk, .string rm, .string rn] 56).ext hE2
                        have hKc := hK.cell
                        have hKl := hK.lt
                        clear hE2 hK hxc hxf hxl
                        cases nm
                        · have HT2 := Lib.hid (HBAD.out (by rw [HRB.out]; rfl))
                          go_wp2_with fail
                          go_ret
                          exact ⟨ret_bool HT2.out.symm, hE0.ext hE4⟩
                        · go_wp2_with fail
                          refine (HNN.out _ (HEV.out _ (hE0.ext hE4)) (HMV.out _ (hE0.ext hE4))).mono ?_
                          rintro e w3 ⟨rfl, hE5⟩
                          have hE6 := hE4.ext hE5
                          clear hE5 hKc hKl
                          cases nn
                          · have HT2 := Lib.hid (HBAD.out (by rw [HRB.out]; rfl))
                            go_wp2_with fail
                            go_ret
                            exact ⟨ret_bool HT2.out.symm, hE0.ext hE6⟩
                          · have HT2 := Lib.hid (HGO.out (by rw [HRB.out]; rfl))
                            go_wp2_with fail
                            go_roundw
                            case rel => exact ⟨j + 1, by omega, by go_num, by rw [HPS.out], HT2.out, hE6⟩
                            case measure => simp [intOf]; omega
                    · cases en
                      · go_wp2_with fail
                        refine (HNM.out _ (HEV.out _ (hE0.ext HE3.out)) (HMV.out _ (hE0.ext HE3.out))).mono ?_
                        rintro e w2 ⟨rfl, hE2⟩
                        have hE4 := HE3.out.ext hE2
                        have hK := (Blk.made wr #[.int .i64 rt, .int .i64 rk, .string rm, .string rn] 56).ext hE2
                        have hKc := hK.cell
                        have hKl := hK.lt
                        clear hE2 hK hxc hxf hxl
                        cases nm
                        · have HT2 := Lib.hid (HBAD.out (by rw [HRB.out]; rfl))
                          go_wp2_with fail
                          go_ret
                          exact ⟨ret_bool HT2.out.symm, hE0.ext hE4⟩
                        · go_wp2_with fail
                          refine (HNN.out _ (HEV.out _ (hE0.ext hE4)) (HMV.out _ (hE0.ext hE4))).mono ?_
                          rintro e w3 ⟨rfl, hE5⟩
                          have hE6 := hE4.ext hE5
                          clear hE5 hKc hKl
                          cases nn
                          · have HT2 := Lib.hid (HBAD.out (by rw [HRB.out]; rfl))
                            go_wp2_with fail
                            go_ret
                            exact ⟨ret_bool HT2.out.symm, hE0.ext hE6⟩
                          · have HT2 := Lib.hid (HGO.out (by rw [HRB.out]; rfl))
                            go_wp2_with fail
                            go_roundw
                            case rel => exact ⟨j + 1, by omega, by go_num, by rw [HPS.out], HT2.out, hE6⟩
                            case measure => simp [intOf]; omega
                      · have HT2 := Lib.hid (HBAD.out (by rw [HRB.out, HEM.out rfl]; rfl))
                        go_wp2_with fail
                        go_ret
                        exact ⟨ret_bool HT2.out.symm, hE0.ext HE3.out⟩
        · obtain rfl : j = nr := by omega
          have HR2 := Lib.hid (rels_all HNR.out hrel.out)
          have HT2 := Lib.hid (HT.out HA.out HR2.out)
          have hX := HX0.out.ext hE
          have hxc := hX.cell
          have hxf := hX.frozen
          have hxl := hX.lt
          by_cases h2 : k ≤ 20000
          · have h2i : (k : Int) ≤ 20000 := by omega
            go_wp2_with fail
            go_ret
            exact ⟨ret_bool (by rw [HT2.out, decide_eq_true h2]), hEr⟩
          · have h2i : ¬ (k : Int) ≤ 20000 := by omega
            go_wp2_with fail
            go_ret
            exact ⟨ret_bool (by rw [HT2.out, decide_eq_false h2]), hEr⟩
end mayo
end Go.Proofs.YtpcihajmcejliabDoor
