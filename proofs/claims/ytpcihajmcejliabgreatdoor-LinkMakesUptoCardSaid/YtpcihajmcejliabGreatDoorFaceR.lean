/- The walks of the reference's comparison of faces: proc, Same. -/
import Derived.Test.YtpcihajmcejliabGreatDoorFaceSame
import Derived.StillTailTactics
namespace Go.Proofs.YtpcihajmcejliabGreatDoor
open Go.RowKit
namespace rface
open face
set_option maxRecDepth 100000 in
set_option maxHeartbeats 2000000 in
theorem proc_any (x y : FProc) (v u : Value) (w : World) (hx : ProcAt w x v) (hy : ProcAt w y u) :
    Calls Tryz.prog 101 #[v, u] w fun e w' => e = .returned (.bool (decide (x = y))) ∧ Ext w w' := by
  obtain ⟨a, c, rfl, ha, hac, hcm⟩ := hx
  obtain ⟨b, d, rfl, hb, hbd, hdm⟩ := hy
  unfold maxLen at hcm hdm
  obtain ⟨xn, xp, xl, xw, xg, xv⟩ := x
  obtain ⟨yn, yp, yl, yw, yg, yv⟩ := y
  simp only at ha hb hac hbd
  have HQ := Lib.hid (show FProc.mk xn xp xl xw xg xv = FProc.mk yn yp yl yw yg yv ↔ xn = yn ∧ xp = yp ∧ xl = yl ∧ xw = yw ∧ xg = yg ∧ xv = yv by simp)
  generalize hB : decide (FProc.mk xn xp xl xw xg xv = FProc.mk yn yp yl yw yg yv) = B
  have HB := Lib.hid hB
  have hf : (¬ (FProc.mk xn xp xl xw xg xv = FProc.mk yn yp yl yw yg yv)) → B = false := fun h => by rw [← hB]; exact decide_eq_false h
  have HF := Lib.hid hf
  have hB1 : Blk (w.alloc (.cells #[.string xn, .bool xp, .slice a xl.length c, .int .i64 xw, .bool xg, .int .i64 xv] 179)) w.heap.size #[.string xn, .bool xp, .slice a xl.length c, .int .i64 xw, .bool xg, .int .i64 xv] 179 := Blk.made _ _ _
  have hB2 := Blk.made (w.alloc (.cells #[.string xn, .bool xp, .slice a xl.length c, .int .i64 xw, .bool xg, .int .i64 xv] 179)) #[.string yn, .bool yp, .slice b yl.length d, .int .i64 yw, .bool yg, .int .i64 yv] 179
  have HB1 := Lib.hid (hB1.alloc (.cells #[.string yn, .bool yp, .slice b yl.length d, .int .i64 yw, .bool yg, .int .i64 yv] 179))
  have HB2 := Lib.hid hB2
  have hE : Ext w ((w.alloc (.cells #[.string xn, .bool xp, .slice a xl.length c, .int .i64 xw, .bool xg, .int .i64 xv] 179)).alloc (.cells #[.string yn, .bool yp, .slice b yl.length d, .int .i64 yw, .bool yg, .int .i64 yv] 179)) := ((Chg.refl _ _).alloc _).alloc _
  have HE := Lib.hid hE
  have HA := Lib.hid (And.intro ha hb)
  obtain ⟨nx, hnx⟩ : ∃ n, xl.length = n := ⟨_, rfl⟩
  obtain ⟨ny, hny⟩ : ∃ n, yl.length = n := ⟨_, rfl⟩
  rw [hnx] at HB1 HB2 HE hac ⊢
  rw [hny] at HB1 HB2 HE hbd ⊢
  have HNX := Lib.hid hnx
  have HNY := Lib.hid hny
  clear hB hf ha hb hE hB1 hB2 hnx hny
  by_cases e0 : xn = yn
  · subst e0
    by_cases e1 : xp = yp
    · subst e1
      by_cases e3 : xw = yw
      · subst e3
        by_cases e4 : xg = yg
        · subst e4
          by_cases e5 : xv = yv
          · subst e5
            by_cases e2 : nx = ny
            · subst e2
              have HL2 := Lib.hid (fun h : decide (xl = yl) = false => HF.out fun h' => of_decide_eq_false h (HQ.out.1 h').2.2.1)
              have HL3 := Lib.hid (fun h : decide (xl = yl) = true => show B = true by rw [← HB.out]; exact decide_eq_true (HQ.out.2 ⟨rfl, rfl, of_decide_eq_true h, rfl, rfl, rfl⟩))
              clear HQ HF HB
              have hB12 := HB1.out.drewN
              have hz1 := HB1.out.lt
              have hz2 := HB2.out.lt
              go_enter Tryz.func101, Tryz.ntmps101
              go_wp2_with fail
              have HX := Lib.hid (And.intro HB1.out HB2.out)
              have hE := HE.out
              generalize (w.alloc (.cells #[.string xn, .bool xp, .slice a nx c, .int .i64 xw, .bool xg, .int .i64 xv] 179)).alloc (.cells #[.string xn, .bool xp, .slice b nx d, .int .i64 xw, .bool xg, .int .i64 xv] 179) = w0 at *
              clear HB1 HB2 HE hB12
              go_loopw [5] (fun i wr => ∃ k : Nat, k ≤ nx ∧ i = .int .i64 k ∧ Hid (decide (xl.take k = yl.take k) = true) ∧ ∃ q, wr = w0.drewN q) (fun i _ => nx - (intOf i).toNat)
              case atStart => exact ⟨0, Nat.zero_le _, rfl, by simp [Hid], 0, rfl⟩
              case round =>
                obtain ⟨k, hk, rfl, hrel, q, rfl⟩ := hrel
                have x2 := HX.out.1.cell 2
                have y2 := HX.out.2.cell 2
                simp at y2
                simp at x2
                by_cases hlt : k < nx
                · have hki : (k : Int) < (nx : Int) := by omega
                  have hlk : k < xl.length := by rw [HNX.out]; exact hlt
                  have hmk : k < yl.length := by rw [HNY.out]; exact hlt
                  obtain ⟨bl, ol, rfl, hbl, cl⟩ := HA.out.1 k hlk
                  obtain ⟨bm, om, rfl, hbm, cm⟩ := HA.out.2 k hmk
                  have cl := IntIn.ext hE hbl cl
                  have cm := IntIn.ext hE hbm cm
                  unfold IntIn at cl cm
                  rw [Nat.mul_one] at cl cm
                  have hs := take_snoc xl yl k hlk hmk
                  rw [hrel.out, Bool.true_and] at hs
                  have HNE := Lib.hid (fun h => take_ne hlk hmk h)
                  generalize xl[k] = x at *
                  generalize yl[k] = y at *
                  by_cases he : x = y
                  · have hxy : (x == y) = true := by simpa using he
                    have HS := Lib.hid (hs.trans (decide_eq_true he))
                    clear hs he
                    go_wp2_with fail
                    go_quiet (fail)
                    go_wp2_with fail
                    go_roundw
                    case rel => exact ⟨k + 1, by omega, by go_num, HS.out, _, rfl⟩
                    case measure => simp [intOf]; omega
                  · have hxy : (x == y) = false := by simpa using he
                    have HT := Lib.hid (HL2.out (HNE.out he))
                    clear hs he HNE
                    go_wp2_with fail
                    go_quiet (fail)
                    go_wp2_with fail
                    go_ret
                    exact ⟨ret_bool HT.out.symm, (hE.drewN _).drewN _⟩
                · obtain rfl : k = nx := by omega
                  have HT := Lib.hid (HL3.out (take_all HNX.out HNY.out hrel.out))
                  go_wp2_with fail
                  go_ret
                  exact ⟨ret_bool HT.out.symm, hE.drewN _⟩
            · have HT := Lib.hid (HF.out fun h => e2 (by rw [← HNX.out, ← HNY.out, (HQ.out.1 h).2.2.1]))
              have h0 : ((nx : Int) == (ny : Int)) = false := by rw [beq_eq_false_iff_ne]; omega
              go_enter Tryz.func101, Tryz.ntmps101
              go_wp2_with fail
              go_ret
              exact ⟨ret_bool HT.out.symm, HE.out⟩
          · have HT := Lib.hid (HF.out fun h => e5 (HQ.out.1 h).2.2.2.2.2)
            have h0 : (xv == yv) = false := by simpa using e5
            go_enter Tryz.func101, Tryz.ntmps101
            go_wp2_with fail
            go_ret
            exact ⟨ret_bool HT.out.symm, HE.out⟩
        · have HT := Lib.hid (HF.out fun h => e4 (HQ.out.1 h).2.2.2.2.1)
          have h0 : (xg == yg) = false := by simpa using e4
          go_enter Tryz.func101, Tryz.ntmps101
          go_wp2_with fail
          go_ret
          exact ⟨ret_bool HT.out.symm, HE.out⟩
      · have HT := Lib.hid (HF.out fun h => e3 (HQ.out.1 h).2.2.2.1)
        have h0 : (xw == yw) = false := by simpa using e3
        go_enter Tryz.func101, Tryz.ntmps101
        go_wp2_with fail
        go_ret
        exact ⟨ret_bool HT.out.symm, HE.out⟩
    · have HT := Lib.hid (HF.out fun h => e1 (HQ.out.1 h).2.1)
      have h0 : (xp == yp) = false := by simpa using e1
      clear e1
      go_enter Tryz.func101, Tryz.ntmps101
      go_wp2_with fail
      go_ret
      exact ⟨ret_bool HT.out.symm, HE.out⟩
  · have HT := Lib.hid (HF.out fun h => e0 (HQ.out.1 h).1)
    obtain ⟨h0, h1⟩ := str_ne e0
    clear e0
    go_enter Tryz.func101, Tryz.ntmps101
    go_wp2_with fail
    go_ret
    exact ⟨ret_bool HT.out.symm, HE.out⟩
set_option maxRecDepth 100000 in
set_option maxHeartbeats 4000000 in
theorem same_any (x y : FFace) (v u : Value) (w : World) (hx : FaceAt w x v) (hy : FaceAt w y u) :
    Calls Tryz.prog 31 #[v, u] w fun e w' => e = .returned (.bool (decide (x = y))) ∧ Ext w w' := by
  obtain ⟨a, am, c, cm, rfl, ha, hc, _, ha1, ha2, hc1, hc2⟩ := hx
  obtain ⟨b, bm, d, dm, rfl, hb, hd, _, hb1, hb2, hd1, hd2⟩ := hy
  unfold maxLen at ha2 hb2 hc2 hd2
  obtain ⟨xn, xv, xp⟩ := x
  obtain ⟨yn, yv, yp⟩ := y
  simp only at ha hc hb hd ha1 hb1 hc1 hd1
  have HQ := Lib.hid (show FFace.mk xn xv xp = FFace.mk yn yv yp ↔ xn = yn ∧ xv = yv ∧ xp = yp by simp)
  generalize hB : decide (FFace.mk xn xv xp = FFace.mk yn yv yp) = B
  have HB := Lib.hid hB
  have hf : (¬ (FFace.mk xn xv xp = FFace.mk yn yv yp)) → B = false := fun h => by rw [← hB]; exact decide_eq_false h
  have HF := Lib.hid hf
  have HA := Lib.hid (And.intro (And.intro ha hb) (And.intro hc hd))
  obtain ⟨n1, hn1⟩ : ∃ n, xv.length = n := ⟨_, rfl⟩
  obtain ⟨n2, hn2⟩ : ∃ n, xp.length = n := ⟨_, rfl⟩
  obtain ⟨n3, hn3⟩ : ∃ n, yv.length = n := ⟨_, rfl⟩
  obtain ⟨n4, hn4⟩ : ∃ n, yp.length = n := ⟨_, rfl⟩
  simp only [hn1, hn2, hn3, hn4] at ha1 hb1 hc1 hd1 ⊢
  have H1 := Lib.hid hn1
  have H2 := Lib.hid hn2
  have H3 := Lib.hid hn3
  have H4 := Lib.hid hn4
  have hB1 : Blk (w.alloc (.cells #[.string xn, .slice a n1 am, .slice c n2 cm] 52)) w.heap.size #[.string xn, .slice a n1 am, .slice c n2 cm] 52 := Blk.made _ _ _
  have hB2 := Blk.made (w.alloc (.cells #[.string xn, .slice a n1 am, .slice c n2 cm] 52)) #[.string yn, .slice b n3 bm, .slice d n4 dm] 52
  have hE : Ext w ((w.alloc (.cells #[.string xn, .slice a n1 am, .slice c n2 cm] 52)).alloc (.cells #[.string yn, .slice b n3 bm, .slice d n4 dm] 52)) := ((Chg.refl _ _).alloc _).alloc _
  have HB1 := Lib.hid (hB1.alloc (.cells #[.string yn, .slice b n3 bm, .slice d n4 dm] 52))
  have HB2 := Lib.hid hB2
  have HE := Lib.hid hE
  clear hB hf ha hb hc hd hn1 hn2 hn3 hn4 hB1 hB2 hE
  by_cases e0 : xn = yn
  · subst e0
    by_cases e1 : n1 = n3
    · subst e1
      by_cases e2 : n2 = n4
      · subst e2
        have HL1 := Lib.hid (fun h : decide (xv = yv) = false => HF.out fun h' => of_decide_eq_false h (HQ.out.1 h').2.1)
        have HL2 := Lib.hid (fun h : decide (xp = yp) = false => HF.out fun h' => of_decide_eq_false h (HQ.out.1 h').2.2)
        have HL3 := Lib.hid (fun (h : decide (xv = yv) = true) (h2 : decide (xp = yp) = true) => show B = true by rw [← HB.out]; exact decide_eq_true (HQ.out.2 ⟨rfl, of_decide_eq_true h, of_decide_eq_true h2⟩))
        clear HQ HF HB
        have hz1 := HB1.out.lt
        go_enter Tryz.func31, Tryz.ntmps31
        go_wp2_with fail
        have HX := Lib.hid (And.intro HB1.out HB2.out)
        have hE := HE.out
        generalize (w.alloc (.cells #[.string xn, .slice a n1 am, .slice c n2 cm] 52)).alloc (.cells #[.string xn, .slice b n1 bm, .slice d n2 dm] 52) = w0 at *
        clear HB1 HB2 HE
        go_loopw [5] (fun i wr => ∃ k : Nat, k ≤ n1 ∧ i = .int .i64 k ∧ Hid (decide (xv.take k = yv.take k) = true) ∧ Ext w0 wr) (fun i _ => n1 - (intOf i).toNat)
        case atStart => exact ⟨0, Nat.zero_le _, rfl, by simp [Hid], Chg.refl _ _⟩
        case round =>
          obtain ⟨k, hk, rfl, hrel, hE0⟩ := hrel
          have X1 := HX.out.1.ext hE0
          have Y1 := HX.out.2.ext hE0
          have hz1' := X1.lt
          have hz2' : w.heap.size + 1 < wr.heap.size := by have := Y1.lt; simpa using this
          by_cases hlt : k < n1
          · have x1 := X1.cell 1
            have y1 := Y1.cell 1
            simp at y1
            simp at x1
            have HX1 := Lib.hid X1
            have HY1 := Lib.hid Y1
            have hki : (k : Int) < (n1 : Int) := by omega
            have hlk : k < xv.length := by rw [H1.out]; exact hlt
            have hmk : k < yv.length := by rw [H3.out]; exact hlt
            obtain ⟨bl, ol, rfl, hbl, cl⟩ := HA.out.1.1 k hlk
            obtain ⟨bm', om, rfl, hbm, cm'⟩ := HA.out.1.2 k hmk
            have hEr := hE.ext hE0
            have hbl' := Nat.lt_of_lt_of_le hbl hEr.size
            have hbm' := Nat.lt_of_lt_of_le hbm hEr.size
            obtain ⟨l0, l1, l2, l3, _⟩ := VarIn.ext hEr hbl cl
            obtain ⟨m0, m1, m2, m3, _⟩ := VarIn.ext hEr hbm cm'
            have hs := take_snoc xv yv k hlk hmk
            rw [hrel.out, Bool.true_and] at hs
            have HNE := Lib.hid (fun h => HL1.out (take_ne hlk hmk h))
            clear cl cm' X1 Y1
            generalize xv[k] = x at *
            generalize yv[k] = y at *
            obtain ⟨xn', xp', xl', xs'⟩ := x
            obtain ⟨yn', yp', yl', ys'⟩ := y
            simp only at l0 l1 l2 l3 m0 m1 m2 m3
            have HQ := Lib.hid (show FVar.mk xn' xp' xl' xs' = FVar.mk yn' yp' yl' ys' ↔ xn' = yn' ∧ xp' = yp' ∧ xl' = yl' ∧ xs' = ys' by simp)
            have HS := Lib.hid hs
            have HEr := Lib.hid hEr
            have HE0 := Lib.hid hE0
            clear hs hEr hE0
            by_cases f0 : xn' = yn'
            · subst f0
              by_cases f1 : xp' = yp'
              · subst f1
                by_cases f2 : xl' = yl'
                · subst f2
                  by_cases f3 : xs' = ys'
                  · subst f3
                    have HT := Lib.hid (HS.out.trans (decide_eq_true rfl))
                    clear HS HQ HNE
                    go_wp2_with fail
                    go_roundw
                    case rel => exact ⟨k + 1, by omega, by go_num, HT.out, (HE0.out.alloc _).alloc _⟩
                    case measure => simp [intOf]; omega
                  · have HT := Lib.hid (HNE.out fun h => f3 (HQ.out.1 h).2.2.2)
                    clear HS HQ HNE
                    go_wp2_with fail
                    go_ret
                    exact ⟨ret_bool HT.out.symm, (HEr.out.alloc _).alloc _⟩
                · have HT := Lib.hid (HNE.out fun h => f2 (HQ.out.1 h).2.2.1)
                  clear HS HQ HNE
                  go_wp2_with fail
                  go_ret
                  exact ⟨ret_bool HT.out.symm, (HEr.out.alloc _).alloc _⟩
              · have HT := Lib.hid (HNE.out fun h => f1 (HQ.out.1 h).2.1)
                have h0 : (xp' == yp') = false := by simpa using f1
                clear HS HQ HNE
                go_wp2_with fail
                go_ret
                exact ⟨ret_bool HT.out.symm, (HEr.out.alloc _).alloc _⟩
            · have HT := Lib.hid (HNE.out fun h => f0 (HQ.out.1 h).1)
              obtain ⟨h0, h1⟩ := str_ne f0
              clear HS HQ HNE f0
              go_wp2_with fail
              go_ret
              exact ⟨ret_bool HT.out.symm, (HEr.out.alloc _).alloc _⟩
          · obtain rfl : k = n1 := by omega
            have HV := Lib.hid (HL3.out (take_all H1.out H3.out hrel.out))
            have x1 := X1.cell 1
            have y1 := Y1.cell 1
            simp at y1
            simp at x1
            clear hrel X1 Y1
            go_wp2_with fail
            go_loopw [8] (fun i wr => ∃ j : Nat, j ≤ n2 ∧ i = .int .i64 j ∧ Hid (decide (xp.take j = yp.take j) = true) ∧ Ext w0 wr) (fun i _ => n2 - (intOf i).toNat)
            case atStart => exact ⟨0, Nat.zero_le _, rfl, by simp [Hid], hE0⟩
            case round =>
              clear hE0 x1 y1 hz1' hz2'
              obtain ⟨j, hj, rfl, hrel, hE0⟩ := hrel
              have X1 := HX.out.1.ext hE0
              have Y1 := HX.out.2.ext hE0
              have hz1' := X1.lt
              have hz2' : w.heap.size + 1 < wr.heap.size := by have := Y1.lt; simpa using this
              have x2 := X1.cell 2
              have y2 := Y1.cell 2
              simp at y2
              simp at x2
              clear X1 Y1
              by_cases hlt2 : j < n2
              · have hki : (j : Int) < (n2 : Int) := by omega
                have hlk : j < xp.length := by rw [H2.out]; exact hlt2
                have hmk : j < yp.length := by rw [H4.out]; exact hlt2
                obtain ⟨bl, ol, rfl, hbl, cl⟩ := HA.out.2.1 j hlk
                obtain ⟨bm', om, rfl, hbm, cm'⟩ := HA.out.2.2 j hmk
                have hEr := hE.ext hE0
                have hbl' := Nat.lt_of_lt_of_le hbl hEr.size
                have hbm' := Nat.lt_of_lt_of_le hbm hEr.size
                have hs := take_snoc xp yp j hlk hmk
                rw [hrel.out, Bool.true_and] at hs
                have HNE := Lib.hid (fun h => HL2.out (take_ne hlk hmk h))
                generalize xp[j] = x at *
                generalize yp[j] = y at *
                have HS := Lib.hid hs
                obtain ⟨l0, l1, ⟨pa, pc, l2, p1, p2, p3⟩, l3, l4, l5, _⟩ := ProcIn.ext hEr hbl cl
                obtain ⟨m0, m1, ⟨qa, qc, m2, q1, q2, q3⟩, m3, m4, m5, _⟩ := ProcIn.ext hEr hbm cm'
                have CC := Lib.hid (fun (w2 : World) (hE2 : Ext wr w2) => proc_any x y _ _ w2 (ProcAt.ext hE2 ⟨pa, pc, rfl, p1, p2, p3⟩) (ProcAt.ext hE2 ⟨qa, qc, rfl, q1, q2, q3⟩))
                have HEr := Lib.hid hEr
                have HE0 := Lib.hid hE0
                clear hs cl cm' p1 p2 p3 q1 q2 q3 hE0 hEr
                obtain ⟨xn', xp', xl', xw', xg', xv'⟩ := x
                obtain ⟨yn', yp', yl', yw', yg', yv'⟩ := y
                simp only at l0 l1 l2 l3 l4 l5 m0 m1 m2 m3 m4 m5 CC
                obtain ⟨nx, hnx⟩ : ∃ n, xl'.length = n := ⟨_, rfl⟩
                obtain ⟨ny, hny⟩ : ∃ n, yl'.length = n := ⟨_, rfl⟩
                rw [hnx] at l2 CC
                rw [hny] at m2 CC
                clear hnx hny
                obtain ⟨D, hD⟩ : ∃ D, decide (FProc.mk xn' xp' xl' xw' xg' xv' = FProc.mk yn' yp' yl' yw' yg' yv') = D := ⟨_, rfl⟩
                rw [hD] at CC
                have HD := Lib.hid hD
                clear hD
                cases D
                · have HT := Lib.hid (HNE.out fun h => of_decide_eq_false HD.out h)
                  go_wp2_with fail
                  go_still_tail 10, (by kernel_rfl)
                  go_wp2_with fail
                  refine (CC.out _ (Chg.refl _ _).drew).mono ?_
                  rintro e w' ⟨rfl, hE2⟩
                  go_wp2_with fail
                  go_ret
                  exact ⟨ret_bool HT.out.symm, HEr.out.drew.ext hE2⟩
                · have HT := Lib.hid (HS.out.trans HD.out)
                  go_wp2_with fail
                  go_still_tail 10, (by kernel_rfl)
                  go_wp2_with fail
                  refine (CC.out _ (Chg.refl _ _).drew).mono ?_
                  rintro e w' ⟨rfl, hE2⟩
                  go_wp2_with fail
                  go_roundw
                  case rel => exact ⟨j + 1, by omega, by go_num, HT.out, HE0.out.drew.ext hE2⟩
                  case measure => simp [intOf]; omega
              · obtain rfl : j = n2 := by omega
                have HT := Lib.hid (HV.out (take_all H2.out H4.out hrel.out))
                go_wp2_with fail
                go_ret
                exact ⟨ret_bool HT.out.symm, hE.ext hE0⟩
      · have HT := Lib.hid (HF.out fun h => e2 (by rw [← H2.out, ← H4.out, (HQ.out.1 h).2.2]))
        have h0 : ((n2 : Int) == (n4 : Int)) = false := by rw [beq_eq_false_iff_ne]; omega
        go_enter Tryz.func31, Tryz.ntmps31
        go_wp2_with fail
        go_ret
        exact ⟨ret_bool HT.out.symm, HE.out⟩
    · have HT := Lib.hid (HF.out fun h => e1 (by rw [← H1.out, ← H3.out, (HQ.out.1 h).2.1]))
      have h0 : ((n1 : Int) == (n3 : Int)) = false := by rw [beq_eq_false_iff_ne]; omega
      go_enter Tryz.func31, Tryz.ntmps31
      go_wp2_with fail
      go_ret
      exact ⟨ret_bool HT.out.symm, HE.out⟩
  · have HT := Lib.hid (HF.out fun h => e0 (HQ.out.1 h).1)
    obtain ⟨h0, h1⟩ := str_ne e0
    clear e0
    go_enter Tryz.func31, Tryz.ntmps31
    go_wp2_with fail
    go_ret
    exact ⟨ret_bool HT.out.symm, HE.out⟩
end rface
end Go.Proofs.YtpcihajmcejliabGreatDoor
