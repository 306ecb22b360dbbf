/- The walk of the reference's reader: a face. The walk of the reference's Get. -/
import Derived.Test.YtpcihajmcejliaaGreatDoorGetD
import Derived.Test.YtpcihajmcejliaaGreatDoorGetC
namespace Go.Proofs.YtpcihajmcejliaaGreatDoor
open Go.RowKit
namespace getr
theorem own_apart {w : World} {B A : Nat} {v : Value} (h : ∀ i, v.ownBlock = some i → B ≤ i ∧ i < w.heap.size) (hA : A < B) : v.ownBlock ≠ some A := fun e => by have := (h A e).1; omega
/-- the bad flag, told at the end -/
theorem bad_step {W w : World} {S : Nat} {L : List UInt8} {s : St} (h : RfAt W w S L s) (K : Int) : RfAt W (w.setCell ⟨S, 2, none⟩ (.bool (s.isNone || decide (K < 0)))) S L (bad K s) := by
  unfold bad
  by_cases hK : K < 0
  · rw [if_pos hK]
    have e : (s.isNone || decide (K < 0)) = true := by simp [hK]
    rw [e]
    exact fail_step h
  · rw [if_neg hK]
    obtain ⟨v, n, b, hb, hv, hst⟩ := h.ex
    have e : (s.isNone || decide (K < 0)) = b := by
      cases s with
      | none => obtain ⟨-, rfl⟩ := stands_none hst; rfl
      | some l => obtain ⟨-, rfl, -⟩ := stands_some hst; simp; omega
    rw [e]
    exact h.step ((Chg.refl (fun i => i = S) w).setCell (p := ⟨S, 2, none⟩) (fun _ => rfl) _) (hb.set 2 _) hv hst
theorem bad_step2 {W w : World} {S : Nat} {L : List UInt8} {s : St} (h : RfAt W w S L s) (N M : Int) : RfAt W (w.setCell ⟨S, 2, none⟩ (.bool ((s.isNone || decide (N < 0)) || decide (M < 0)))) S L (bad N (bad M s)) := by
  by_cases hM : M < 0
  · have e : bad N (bad M s) = none := by unfold bad; rw [if_pos hM]; split <;> rfl
    have e2 : ((s.isNone || decide (N < 0)) || decide (M < 0)) = true := by simp [hM]
    rw [e, e2]
    exact fail_step h
  · have e : bad N (bad M s) = bad N s := by unfold bad; rw [if_neg hM]
    have e2 : ((s.isNone || decide (N < 0)) || decide (M < 0)) = (s.isNone || decide (N < 0)) := by simp; omega
    rw [e, e2]
    exact bad_step h N
theorem rf_flag {W w : World} {S : Nat} {L : List UInt8} {s : St} (h : RfAt W w S L s) : w.cell? ⟨S, 2, none⟩ = some (.bool s.isNone) ∧ w.frozen? ⟨S, 2, none⟩ = false := by
  refine ⟨rf_cell h, ?_⟩
  obtain ⟨v, n, b, hb, -, -⟩ := h.ex
  exact hb.frozen 2
set_option maxRecDepth 100000 in
set_option maxHeartbeats 16000000 in
theorem face_any {W w : World} {S : Nat} {L : List UInt8} {s : St} (h : RfAt W w S L s) (hs : L.length ≤ 100000000) :
    Calls Tryz.prog 72 #[.pointer (some ⟨S, 0, none⟩)] w (Rfs (fun x v w' => VFace x v (hide (below w.heap.size) w')) W w S L (qFace s)) := by
  have hSl := h.lt
  have HWl := Lib.hid (show W.heap.size ≤ w.heap.size from h.ext.size)
  obtain ⟨D, hDe⟩ : ∃ D, w.heap.size = D := ⟨_, rfl⟩
  obtain ⟨A, hAe⟩ : ∃ A, D + 1 = A := ⟨_, rfl⟩
  have hD0 : Blk ((w.alloc (.cells #[.string ⟨#[]⟩, .slice none 0 0, .slice none 0 0] 25)).alloc (.cells #[.string ⟨#[]⟩, .slice none 0 0, .slice none 0 0] 25)) D #[.string ⟨#[]⟩, .slice none 0 0, .slice none 0 0] 25 := by
    rw [← hDe]; exact (Blk.made w #[.string ⟨#[]⟩, .slice none 0 0, .slice none 0 0] 25).alloc _
  have hA0 : Blk ((w.alloc (.cells #[.string ⟨#[]⟩, .slice none 0 0, .slice none 0 0] 25)).alloc (.cells #[.string ⟨#[]⟩, .slice none 0 0, .slice none 0 0] 25)) A #[.string ⟨#[]⟩, .slice none 0 0, .slice none 0 0] 25 := by
    rw [← hAe, ← hDe]; exact Blk.made2 w _ #[.string ⟨#[]⟩, .slice none 0 0, .slice none 0 0] 25
  have hR0 := (h.alloc (.cells #[.string ⟨#[]⟩, .slice none 0 0, .slice none 0 0] 25)).alloc (.cells #[.string ⟨#[]⟩, .slice none 0 0, .slice none 0 0] 25)
  have hC0 : Chg (fun i => i = S) w ((w.alloc (.cells #[.string ⟨#[]⟩, .slice none 0 0, .slice none 0 0] 25)).alloc (.cells #[.string ⟨#[]⟩, .slice none 0 0, .slice none 0 0] 25)) := ((Chg.refl _ w).alloc _).alloc _
  obtain ⟨RES, hRES⟩ : ∃ RES, qFace s = RES := ⟨_, rfl⟩
  have HRES := Lib.hid hRES
  rw [hRES]
  clear h hRES
  go_enter Tryz.func72, Tryz.ntmps72
  obtain ⟨x0, sa, hqa⟩ : ∃ y z, qText s = (y, z) := ⟨_, _, rfl⟩
  have HCa := Lib.hid (text_any hR0 hs)
  rw [hqa] at HCa
  have HQa := Lib.hid hqa
  clear hqa
  go_wp2_with fail
  refine HCa.out.mono ?_
  rintro e wa ⟨hCa, hRa, v, rfl, ⟨rfl, hx⟩⟩
  have hRa : RfAt W wa S L sa := hRa
  clear HCa
  have HX0 := Lib.hid hx
  have hDa := hD0.chg hCa (by omega)
  have hAa := hA0.chg hCa (by omega)
  have hCCa := hC0.then hCa
  have hAc := hAa.cell
  have hAf := hAa.frozen
  have hAl := hAa.lt
  clear hx hD0 hA0 hC0 hR0 hCa
  have hAs : Blk (wa.setCell ⟨A, 0, none⟩ (.string x0)) A #[.string x0, .slice none 0 0, .slice none 0 0] 25 := hAa.set 0 _
  have hDs := hDa.setOther (p := ⟨A, 0, none⟩) (by show _ ≠ A; omega) (.string x0)
  have hRs : RfAt W (wa.setCell ⟨A, 0, none⟩ (.string x0)) S L sa := hRa.setFar (p := ⟨A, 0, none⟩) (by show A ≠ S; omega) (by have := HWl.out; show _ ≤ A; omega) _
  have hCCs : Chg (fun i => i = S) w (wa.setCell ⟨A, 0, none⟩ (.string x0)) := hCCa.setNew (p := ⟨A, 0, none⟩) (by show _ ≤ A; omega) _
  obtain ⟨N, sb, hqb⟩ : ∃ y z, qNum sa = (y, z) := ⟨_, _, rfl⟩
  have HCb := Lib.hid (number_any hRs)
  rw [hqb] at HCb
  have HQb := Lib.hid hqb
  clear hqb
  go_wp2_with fail
  refine HCb.out.mono ?_
  rintro e wb ⟨hCb, hRb, v, rfl, rfl⟩
  have hRb : RfAt W wb S L sb := hRb
  clear HCb
  have hDb := hDs.chg hCb (by omega)
  have hAb := hAs.chg hCb (by omega)
  have hCCb := hCCs.then hCb
  have hAbl := hAb.lt
  clear hDs hAs hCCs hRs hCb hDa hAa hCCa hRa hAc hAf hAl
  obtain ⟨T1, hT1⟩ : ∃ T, qLoop qVar N.toNat sb = T := ⟨_, rfl⟩
  have HT1 := Lib.hid hT1
  clear hT1
  go_upto_block 0 with (fail)
  go_cut [] (fun w' => ∃ (v : Value) (xs : List FVar) (st : St), Blk w' A #[.string x0, v, .slice none 0 0] 25 ∧ Grow 4 149 VVar wb.heap.size w' v xs ∧ RfAt W w' S L st ∧ Chg (fun i => i = S ∨ i = A) wb w' ∧ Hid (T1 = (xs, st)))
  case first =>
    go_wp2_with fail
    go_loopw [5] (fun si wr => ∃ (k : Nat) (v : Value) (xs : List FVar) (st : St), si = .int .i64 k ∧ xs.length = k ∧ Blk wr A #[.string x0, v, .slice none 0 0] 25 ∧ Grow 4 149 VVar wb.heap.size wr v xs ∧ RfAt W wr S L st ∧ Fits L k st ∧ (k : Int) ≤ max N 0 ∧ Chg (fun i => i = S ∨ i = A) wb wr ∧ Hid (T1 = qPre xs (qLoop qVar (N.toNat - k) st))) (fun si _ => N.toNat - (intOf si).toNat)
    case atStart => exact ⟨0, _, [], sb, rfl, rfl, hAb, Grow.nil _ _ _ _ _, hRb, Fits.start (rf_len hRb), by omega, Chg.refl _ _, HT1.out.symm⟩
    case round =>
      have HCW := Lib.hid (show w.heap.size ≤ wb.heap.size from hCCb.size)
      clear hDb hAb hRb hCCb HT1
      obtain ⟨k, v, xs, st, rfl, hxs, hA, hG, hR, hF, hkN, hCr, hTr⟩ := hrel
      have hbad := rf_cell hR
      have hk8 := hF.1
      by_cases hlt : (k : Int) < N
      · cases st with
        | some r =>
          have hbad : wr.cell? ⟨S, 2, none⟩ = some (.bool false) := hbad
          obtain ⟨q, hq⟩ : ∃ q, N.toNat - k = q + 1 := ⟨N.toNat - k - 1, by omega⟩
          have HQQ := Lib.hid (show N.toNat - (k + 1) = q by omega)
          rw [hq] at hTr
          have HTN := Lib.hid (hTr.out.trans pre_some)
          have HXS := Lib.hid hxs
          have HFN := Lib.hid (hF.next (q := qVar) (le_of var getw.var_le))
          have HGR := Lib.hid hG
          have HWR := Lib.hid hCr.size
          clear hq hTr hxs hF hG
          have hV0 := Blk.made wr #[.string ⟨#[]⟩, .bool false, .int .i64 0, .int .i64 0] 149
          have hR0 := hR.alloc (.cells #[.string ⟨#[]⟩, .bool false, .int .i64 0, .int .i64 0] 149)
          have hG0 : Chg (fun i => i = S) wr (wr.alloc (.cells #[.string ⟨#[]⟩, .bool false, .int .i64 0, .int .i64 0] 149)) := (Chg.refl _ _).alloc _
          obtain ⟨Q, hQe⟩ : ∃ Q, wr.heap.size = Q := ⟨_, rfl⟩
          rw [hQe] at hV0
          have hSQ : S < Q := by have := hR.lt; omega
          obtain ⟨px0, pt0, hqp0⟩ : ∃ y z, qText (some r) = (y, z) := ⟨_, _, rfl⟩
          have HCp0 := Lib.hid (text_any hR0 hs)
          rw [hqp0] at HCp0
          have HQp0 := Lib.hid hqp0
          clear hqp0
          go_wp2_with fail
          refine HCp0.out.mono ?_
          rintro e pw0 ⟨hCp0, hRp0, v, rfl, ⟨rfl, hx⟩⟩
          have hRp0 : RfAt W pw0 S L pt0 := hRp0
          clear HCp0
          have hVp0 := hV0.chg hCp0 (by omega)
          have hGp0 := hG0.then hCp0
          have hVc := hVp0.cell
          have hVf := hVp0.frozen
          have hVl := hVp0.lt
          clear hV0 hG0 hR0 hCp0
          have HXp0 := Lib.hid hx
          clear hx
          have hVp0s : Blk (pw0.setCell ⟨Q, 0, none⟩ (.string px0)) Q #[.string px0, .bool false, .int .i64 0, .int .i64 0] 149 := hVp0.set 0 _
          have hGp0s : Chg (fun i => i = S) wr (pw0.setCell ⟨Q, 0, none⟩ (.string px0)) := hGp0.setNew (p := ⟨Q, 0, none⟩) (by show _ ≤ Q; omega) _
          have hRp0s : RfAt W (pw0.setCell ⟨Q, 0, none⟩ (.string px0)) S L pt0 := hRp0.setFar (p := ⟨Q, 0, none⟩) (by show Q ≠ S; omega) (by have := HWl.out; have := HWR.out; have := HCW.out; show _ ≤ Q; omega) _
          obtain ⟨px1, pt1, hqp1⟩ : ∃ y z, qTruth pt0 = (y, z) := ⟨_, _, rfl⟩
          have HCp1 := Lib.hid (truth_any hRp0s)
          rw [hqp1] at HCp1
          have HQp1 := Lib.hid hqp1
          clear hqp1
          go_wp2_with fail
          refine HCp1.out.mono ?_
          rintro e pw1 ⟨hCp1, hRp1, v, rfl, rfl⟩
          have hRp1 : RfAt W pw1 S L pt1 := hRp1
          clear HCp1
          have hVp1 := hVp0s.chg hCp1 (by omega)
          have hGp1 := hGp0s.then hCp1
          have hVc := hVp1.cell
          have hVf := hVp1.frozen
          have hVl := hVp1.lt
          clear hVp0s hGp0s hRp0s hCp1
          have hVp1s : Blk (pw1.setCell ⟨Q, 1, none⟩ (.bool px1)) Q #[.string px0, .bool px1, .int .i64 0, .int .i64 0] 149 := hVp1.set 1 _
          have hGp1s : Chg (fun i => i = S) wr (pw1.setCell ⟨Q, 1, none⟩ (.bool px1)) := hGp1.setNew (p := ⟨Q, 1, none⟩) (by show _ ≤ Q; omega) _
          have hRp1s : RfAt W (pw1.setCell ⟨Q, 1, none⟩ (.bool px1)) S L pt1 := hRp1.setFar (p := ⟨Q, 1, none⟩) (by show Q ≠ S; omega) (by have := HWl.out; have := HWR.out; have := HCW.out; show _ ≤ Q; omega) _
          obtain ⟨px2, pt2, hqp2⟩ : ∃ y z, qNum pt1 = (y, z) := ⟨_, _, rfl⟩
          have HCp2 := Lib.hid (number_any hRp1s)
          rw [hqp2] at HCp2
          have HQp2 := Lib.hid hqp2
          clear hqp2
          go_wp2_with fail
          refine HCp2.out.mono ?_
          rintro e pw2 ⟨hCp2, hRp2, v, rfl, rfl⟩
          have hRp2 : RfAt W pw2 S L pt2 := hRp2
          clear HCp2
          have hVp2 := hVp1s.chg hCp2 (by omega)
          have hGp2 := hGp1s.then hCp2
          have hVc := hVp2.cell
          have hVf := hVp2.frozen
          have hVl := hVp2.lt
          clear hVp1s hGp1s hRp1s hCp2
          have hVp2s : Blk (pw2.setCell ⟨Q, 2, none⟩ (.int .i64 px2)) Q #[.string px0, .bool px1, .int .i64 px2, .int .i64 0] 149 := hVp2.set 2 _
          have hGp2s : Chg (fun i => i = S) wr (pw2.setCell ⟨Q, 2, none⟩ (.int .i64 px2)) := hGp2.setNew (p := ⟨Q, 2, none⟩) (by show _ ≤ Q; omega) _
          have hRp2s : RfAt W (pw2.setCell ⟨Q, 2, none⟩ (.int .i64 px2)) S L pt2 := hRp2.setFar (p := ⟨Q, 2, none⟩) (by show Q ≠ S; omega) (by have := HWl.out; have := HWR.out; have := HCW.out; show _ ≤ Q; omega) _
          obtain ⟨px3, pt3, hqp3⟩ : ∃ y z, qNum pt2 = (y, z) := ⟨_, _, rfl⟩
          have HCp3 := Lib.hid (number_any hRp2s)
          rw [hqp3] at HCp3
          have HQp3 := Lib.hid hqp3
          clear hqp3
          go_wp2_with fail
          refine HCp3.out.mono ?_
          rintro e pw3 ⟨hCp3, hRp3, v, rfl, rfl⟩
          have hRp3 : RfAt W pw3 S L pt3 := hRp3
          clear HCp3
          have hVp3 := hVp2s.chg hCp3 (by omega)
          have hGp3 := hGp2s.then hCp3
          have hVc := hVp3.cell
          have hVf := hVp3.frozen
          have hVl := hVp3.lt
          clear hVp2s hGp2s hRp2s hCp3
          have hVp3s : Blk (pw3.setCell ⟨Q, 3, none⟩ (.int .i64 px3)) Q #[.string px0, .bool px1, .int .i64 px2, .int .i64 px3] 149 := hVp3.set 3 _
          have hGp3s : Chg (fun i => i = S) wr (pw3.setCell ⟨Q, 3, none⟩ (.int .i64 px3)) := hGp3.setNew (p := ⟨Q, 3, none⟩) (by show _ ≤ Q; omega) _
          have hRp3s : RfAt W (pw3.setCell ⟨Q, 3, none⟩ (.int .i64 px3)) S L pt3 := hRp3.setFar (p := ⟨Q, 3, none⟩) (by show Q ≠ S; omega) (by have := HWl.out; have := HWR.out; have := HCW.out; show _ ≤ Q; omega) _
          go_upto_region 12 with (fail)
          generalize pw3.setCell ⟨Q, 3, none⟩ (.int .i64 px3) = u9 at *
          have hG9 := HGR.out.chg getv.var_keeps hGp3s (fun i hi => by omega)
          obtain ⟨us, hu1, hu2, hu3⟩ := hG9.ex
          rw [HXS.out] at hu2
          have HU := Lib.hid (And.intro hu1 hu3)
          have HGB := Lib.hid (getw.grow_base HGR.out)
          have HV2 := Lib.hid (getv.var_keeps _ _ _ _ (getw.new_apart (w := u9) (getw.grow_base HGR.out) HWR.out) (show VVar ⟨px0, px1, px2, px3⟩ (.agg #[.string px0, .bool px1, .int .i64 px2, .int .i64 px3]) _ from ⟨rfl, Nat.le_trans HXp0.out (by unfold maxLen; omega)⟩))
          have hs9 : wb.heap.size ≤ u9.heap.size := Nat.le_trans HWR.out hGp3s.size
          obtain ⟨i0_, hi, hz0, hz1, hz2⟩ := info_parts getw.info_var
          clear hG9 hu1 hu3
          have hAu := hA.chg hGp3s (by omega)
          have hAuc := hAu.cell
          have hAul := hAu.lt
          have hNA := own_apart (getw.grow_base HGR.out) (show A < wb.heap.size by omega)
          have hQc := hVp3s.cell
          have hQl := hVp3s.lt
          go_wp2_with (at_builtin; refine wpList_append_lies _ rfl _ _ 22 rfl wb.heap.size 149 i0_ (.agg #[.string ⟨#[]⟩, .bool false, .int .i64 0, .int .i64 0]) 4 40 Tryz.underlying22 hi hz0 hz1 hz2 rfl (by decide) _ _ _ rfl (hu2.alloc _) ⟨u9.heap.size, 0, none⟩ 1 1 [.string px0, .bool px1, .int .i64 px2, .int .i64 px3] rfl rfl (getw.news_at rfl rfl) (by intro u hu; simp at hu; rcases hu with rfl | rfl | rfl | rfl <;> rfl) (by decide) (by unfold maxLen; omega) (by omega) (by simp; omega) (u9.heap.size + 1) (by simp) ?_; intro g cap' w9 hown hgrow hat hlt1; have hA9 : Blk w9 A #[.string x0, v, .slice none 0 0] 25 := (hgrow.block A (by simp; omega) (by first | exact hNA | exact fun e => hNA e.symm)).trans (hAu.alloc _); have hA9c := hA9.cell; have hA9f := hA9.frozen; have hA9l := hA9.lt)
          obtain ⟨hN1, hN2, hN3⟩ := grow_next hGp3s HU.out.1 HU.out.2 HXS.out hown hgrow hat HV2.out rfl rfl getv.var_keeps
          have HIT := Lib.hid (show qVar (some r) = (⟨px0, px1, px2, px3⟩, pt3) by simp only [qVar, qMap, HQp0.out, HQp1.out, HQp2.out, HQp3.out])
          have HTN2 := Lib.hid (show T1 = qPre (xs ++ [⟨px0, px1, px2, px3⟩]) (qLoop qVar q pt3) by rw [HTN.out, HIT.out])
          have HFN2 := Lib.hid (show Fits L (k + 1) pt3 by have := HFN.out; rw [HIT.out] at this; exact this)
          have hRn := (hRp3s.chg hN3 (fun e => by have := (HGB.out S e).1; omega) (fun i e => by have := (HGB.out i e).1; have := HWl.out; have := HCW.out; omega)).setFar (p := ⟨A, 1, none⟩) (by show A ≠ S; omega) (by have := HWl.out; have := HCW.out; show _ ≤ A; omega) (.slice (some ⟨g, 0, none⟩) (k + 1) cap')
          have hCn : Chg (fun i => i = S ∨ i = A) wb (w9.setCell ⟨A, 1, none⟩ (.slice (some ⟨g, 0, none⟩) (k + 1) cap')) := (hCr.trans hN2 (fun i hi e => e.elim (fun e => .inl e) (fun e => by have := (HGB.out i e).1; omega))).setCell (p := ⟨A, 1, none⟩) (fun _ => .inr rfl) _
          have hGn := hN1.chg getv.var_keeps ((Chg.refl (fun i => i = A) w9).setCell (p := ⟨A, 1, none⟩) (fun _ => rfl) (.slice (some ⟨g, 0, none⟩) (k + 1) cap')) (fun i hi => by omega)
          have hAn : Blk (w9.setCell ⟨A, 1, none⟩ (.slice (some ⟨g, 0, none⟩) (k + 1) cap')) A #[.string x0, .slice (some ⟨g, 0, none⟩) (k + 1) cap', .slice none 0 0] 25 := hA9.set 1 _
          go_roundw
          case rel => exact ⟨k + 1, _, xs ++ [⟨px0, px1, px2, px3⟩], pt3, by go_num, by simp [HXS.out], hAn, hGn, hRn, HFN2.out, by omega, hCn, by rw [HQQ.out]; exact HTN2.out⟩
          case measure => simp [intOf]; omega
        | none =>
          have hbad : wr.cell? ⟨S, 2, none⟩ = some (.bool true) := hbad
          have hend := Lib.hid (hTr.out.trans (pre_end (.inr rfl)))
          clear hTr
          go_wp2_with fail
          go_meet
          exact ⟨v, xs, none, hA, hG, hR, hCr, hend⟩
      · have hend := Lib.hid (hTr.out.trans (pre_end (.inl (by omega))))
        clear hTr
        go_wp2_with fail
        go_meet
        exact ⟨v, xs, st, hA, hG, hR, hCr, hend⟩
  case rest =>
    obtain ⟨va, xs1, sc, hA1, hG1, hR1, hC1, hTe1⟩ := hcut
    have hD1 := hDb.chg hC1 (by omega)
    have hCC1 : Chg (fun i => i = S) w wc := hCCb.trans hC1 (fun i hi e => e.elim id (fun e => by omega))
    have hrow1 := (hG1.row getv.var_keeps getv.var_lies).keeps (fun _ _ _ => VarIn.keeps (keeps_low (show A + 1 ≤ wb.heap.size by omega))) (keeps_low (show A + 1 ≤ wb.heap.size by omega))
    obtain ⟨a1, c1, rfl, hle1, hcm1, hI1⟩ := hrow1
    have HCB := Lib.hid (show w.heap.size ≤ wb.heap.size from hCCb.size)
    clear hG1 hC1 hDb hAb hRb hCCb
    obtain ⟨M, sd, hqd⟩ : ∃ y z, qNum sc = (y, z) := ⟨_, _, rfl⟩
    have HCd := Lib.hid (number_any hR1)
    rw [hqd] at HCd
    have HQd := Lib.hid hqd
    clear hqd
    go_wp2_with fail
    refine HCd.out.mono ?_
    rintro e wd ⟨hCd, hRd, v, rfl, rfl⟩
    have hRd : RfAt W wd S L sd := hRd
    clear HCd
    have hDd := hD1.chg hCd (by omega)
    have hAd := hA1.chg hCd (by omega)
    have hCCd := hCC1.then hCd
    have hAdl := hAd.lt
    have hId := allin_chg (In := VarIn) (fun hk _ _ _ => VarIn.keeps hk) hI1 hCd (fun i hi => by omega)
    clear hD1 hA1 hCC1 hCd hR1 hI1
    obtain ⟨T2, hT2⟩ : ∃ T, qLoop qProc M.toNat sd = T := ⟨_, rfl⟩
    have HT2 := Lib.hid hT2
    clear hT2
    go_upto_block 2 with (fail)
    go_cut [] (fun w' => ∃ (v : Value) (xs : List FProc) (st : St), Blk w' A #[.string x0, .slice a1 xs1.length c1, v] 25 ∧ Grow 6 154 VProc wd.heap.size w' v xs ∧ RfAt W w' S L st ∧ Chg (fun i => i = S ∨ i = A) wd w' ∧ Hid (T2 = (xs, st)))
    case first =>
      go_wp2_with fail
      go_loopw [8] (fun si wr => ∃ (k : Nat) (v : Value) (xs : List FProc) (st : St), si = .int .i64 k ∧ xs.length = k ∧ Blk wr A #[.string x0, .slice a1 xs1.length c1, v] 25 ∧ Grow 6 154 VProc wd.heap.size wr v xs ∧ RfAt W wr S L st ∧ Fits L k st ∧ (k : Int) ≤ max M 0 ∧ Chg (fun i => i = S ∨ i = A) wd wr ∧ Hid (T2 = qPre xs (qLoop qProc (M.toNat - k) st))) (fun si _ => M.toNat - (intOf si).toNat)
      case atStart => exact ⟨0, _, [], sd, rfl, rfl, hAd, Grow.nil _ _ _ _ _, hRd, Fits.start (rf_len hRd), by omega, Chg.refl _ _, HT2.out.symm⟩
      case round =>
        have HCW := Lib.hid (show w.heap.size ≤ wd.heap.size from hCCd.size)
        clear hDd hAd hRd hCCd HT2 hId
        obtain ⟨k, v, xs, st, rfl, hxs, hA, hG, hR, hF, hkN, hCr, hTr⟩ := hrel
        have hbad := rf_cell hR
        have hk8 := hF.1
        by_cases hlt : (k : Int) < M
        · cases st with
          | some r =>
            have hbad : wr.cell? ⟨S, 2, none⟩ = some (.bool false) := hbad
            obtain ⟨q, hq⟩ : ∃ q, M.toNat - k = q + 1 := ⟨M.toNat - k - 1, by omega⟩
            have HQQ := Lib.hid (show M.toNat - (k + 1) = q by omega)
            rw [hq] at hTr
            have HTN := Lib.hid (hTr.out.trans pre_some)
            have HXS := Lib.hid hxs
            have HFN := Lib.hid (hF.next (q := qProc) (le_of (proc getw.num_le) getw.proc_le))
            have HGR := Lib.hid hG
            have HWR := Lib.hid hCr.size
            clear hq hTr hxs hF hG
            have hV0 := Blk.made wr #[.string ⟨#[]⟩, .bool false, .slice none 0 0, .int .i64 0, .bool false, .int .i64 0] 154
            have hR0 := hR.alloc (.cells #[.string ⟨#[]⟩, .bool false, .slice none 0 0, .int .i64 0, .bool false, .int .i64 0] 154)
            have hG0 : Chg (fun i => i = S) wr (wr.alloc (.cells #[.string ⟨#[]⟩, .bool false, .slice none 0 0, .int .i64 0, .bool false, .int .i64 0] 154)) := (Chg.refl _ _).alloc _
            obtain ⟨Q, hQe⟩ : ∃ Q, wr.heap.size = Q := ⟨_, rfl⟩
            rw [hQe] at hV0
            have hSQ : S < Q := by have := hR.lt; omega
            have HSW := Lib.hid (show W.heap.size ≤ Q by have := HWl.out; have := HWR.out; have := HCW.out; omega)
            obtain ⟨px0, pt0, hqp0⟩ : ∃ y z, qText (some r) = (y, z) := ⟨_, _, rfl⟩
            have HCp0 := Lib.hid (text_any hR0 hs)
            rw [hqp0] at HCp0
            have HQp0 := Lib.hid hqp0
            clear hqp0
            go_wp2_with fail
            refine HCp0.out.mono ?_
            rintro e pw0 ⟨hCp0, hRp0, v, rfl, ⟨rfl, hx⟩⟩
            have hRp0 : RfAt W pw0 S L pt0 := hRp0
            clear HCp0
            have hVp0 := hV0.chg hCp0 (by omega)
            have hGp0 := hG0.then hCp0
            clear hV0 hG0 hR0 hCp0
            have HXp0 := Lib.hid hx
            clear hx
            have hVc := hVp0.cell
            have hVf := hVp0.frozen
            have hVl := hVp0.lt
            have hVp0s : Blk (pw0.setCell ⟨Q, 0, none⟩ (.string px0)) Q #[.string px0, .bool false, .slice none 0 0, .int .i64 0, .bool false, .int .i64 0] 154 := hVp0.set 0 _
            have hGp0s := hGp0.setNew (p := ⟨Q, 0, none⟩) (by show _ ≤ Q; omega) (.string px0)
            have hRp0s : RfAt W (pw0.setCell ⟨Q, 0, none⟩ (.string px0)) S L pt0 := hRp0.setFar (p := ⟨Q, 0, none⟩) (by show Q ≠ S; omega) (by have := HWl.out; have := HWR.out; have := HCW.out; show _ ≤ Q; omega) _
            obtain ⟨px1, pt1, hqp1⟩ : ∃ y z, qTruth pt0 = (y, z) := ⟨_, _, rfl⟩
            have HCp1 := Lib.hid (truth_any hRp0s)
            rw [hqp1] at HCp1
            have HQp1 := Lib.hid hqp1
            clear hqp1
            go_wp2_with fail
            refine HCp1.out.mono ?_
            rintro e pw1 ⟨hCp1, hRp1, v, rfl, rfl⟩
            have hRp1 : RfAt W pw1 S L pt1 := hRp1
            clear HCp1
            have hVp1 := hVp0s.chg hCp1 (by omega)
            have hGp1 := hGp0s.then hCp1
            clear hVp0s hGp0s hRp0s hCp1
            have hVc := hVp1.cell
            have hVf := hVp1.frozen
            have hVl := hVp1.lt
            have hVp1s : Blk (pw1.setCell ⟨Q, 1, none⟩ (.bool px1)) Q #[.string px0, .bool px1, .slice none 0 0, .int .i64 0, .bool false, .int .i64 0] 154 := hVp1.set 1 _
            have hGp1s := hGp1.setNew (p := ⟨Q, 1, none⟩) (by show _ ≤ Q; omega) (.bool px1)
            have hRp1s : RfAt W (pw1.setCell ⟨Q, 1, none⟩ (.bool px1)) S L pt1 := hRp1.setFar (p := ⟨Q, 1, none⟩) (by show Q ≠ S; omega) (by have := HWl.out; have := HWR.out; have := HCW.out; show _ ≤ Q; omega) _
            obtain ⟨K, ptk, hqpk⟩ : ∃ y z, qNum pt1 = (y, z) := ⟨_, _, rfl⟩
            have HCpk := Lib.hid (number_any hRp1s)
            rw [hqpk] at HCpk
            have HQpk := Lib.hid hqpk
            clear hqpk
            go_wp2_with fail
            refine HCpk.out.mono ?_
            rintro e pk ⟨hCpk, hRpk, v, rfl, rfl⟩
            have hRpk : RfAt W pk S L ptk := hRpk
            clear HCpk
            have hVpk := hVp1s.chg hCpk (by omega)
            have hGpk := hGp1s.then hCpk
            clear hVp1s hGp1s hRp1s hCpk
            obtain ⟨T3, hT3⟩ : ∃ T, qLoop qNum K.toNat ptk = T := ⟨_, rfl⟩
            have HT3 := Lib.hid hT3
            have hQpk := hVpk.lt
            have HGRo := Lib.hid (And.intro HGR.out True.intro)
            clear hT3
            go_upto_block 4 with (fail)
            go_cut [] (fun w' => ∃ (v : Value) (xs : List Int) (st : St), Blk w' Q #[.string px0, .bool px1, v, .int .i64 0, .bool false, .int .i64 0] 154 ∧ Grow 1 3 VInt pk.heap.size w' v xs ∧ RfAt W w' S L st ∧ Chg (fun i => i = S ∨ i = Q) pk w' ∧ Hid (T3 = (xs, st)))
            case first =>
              go_wp2_with fail
              go_loopw [11] (fun si wr => ∃ (k : Nat) (v : Value) (xs : List Int) (st : St), si = .int .i64 k ∧ xs.length = k ∧ Blk wr Q #[.string px0, .bool px1, v, .int .i64 0, .bool false, .int .i64 0] 154 ∧ Grow 1 3 VInt pk.heap.size wr v xs ∧ RfAt W wr S L st ∧ Fits L k st ∧ (k : Int) ≤ max K 0 ∧ Chg (fun i => i = S ∨ i = Q) pk wr ∧ Hid (T3 = qPre xs (qLoop qNum (K.toNat - k) st))) (fun si _ => K.toNat - (intOf si).toNat)
              case atStart => exact ⟨0, _, [], ptk, rfl, rfl, hVpk, Grow.nil _ _ _ _ _, hRpk, Fits.start (rf_len hRpk), by omega, Chg.refl _ _, HT3.out.symm⟩
              case round =>
                have HCW := Lib.hid (show W.heap.size ≤ pk.heap.size from by have := HSW.out; omega)
                clear hVpk hRpk hGpk HT3 hA hCr hbad HGR HWR
                obtain ⟨k, v, xs, st, rfl, hxs, hA, hG, hR, hF, hkN, hCr, hTr⟩ := hrel
                have hbad := rf_cell hR
                have hk8 := hF.1
                by_cases hlt : (k : Int) < K
                · cases st with
                  | some r =>
                    have hbad : wr.cell? ⟨S, 2, none⟩ = some (.bool false) := hbad
                    obtain ⟨q, hq⟩ : ∃ q, K.toNat - k = q + 1 := ⟨K.toNat - k - 1, by omega⟩
                    have HQQ := Lib.hid (show K.toNat - (k + 1) = q by omega)
                    rw [hq] at hTr
                    have HTN := Lib.hid (hTr.out.trans pre_some)
                    have HXS := Lib.hid hxs
                    have HFN := Lib.hid (hF.next (q := qNum) (le_of num getw.num_le))
                    have HGR := Lib.hid hG
                    have HWR := Lib.hid hCr.size
                    clear hq hTr hxs hF hG
                    have hG0 : Chg (fun i => i = S) wr wr := Chg.refl _ _
                    obtain ⟨y, yt, hqy⟩ : ∃ y z, qNum (some r) = (y, z) := ⟨_, _, rfl⟩
                    have HCy := Lib.hid (number_any hR)
                    rw [hqy] at HCy
                    have HQy := Lib.hid hqy
                    clear hqy
                    go_wp2_with fail
                    refine HCy.out.mono ?_
                    rintro e yw ⟨hCy, hRy, v, rfl, rfl⟩
                    have hRy : RfAt W yw S L yt := hRy
                    clear HCy
                    have hGy := hG0.then hCy
                    clear hG0
                    go_upto_region 25 with (fail)
                    generalize yw = u9 at *
                    have hG9 := HGR.out.chg getv.int_keeps hGy (fun i hi => by omega)
                    obtain ⟨us, hu1, hu2, hu3⟩ := hG9.ex
                    rw [HXS.out] at hu2
                    have HU := Lib.hid (And.intro hu1 hu3)
                    have HGB := Lib.hid (getw.grow_base HGR.out)
                    have HV2 := Lib.hid (getv.int_keeps _ _ _ _ (getw.new_apart (w := u9) (getw.grow_base HGR.out) HWR.out) (show VInt y (.int .i64 y) _ from ⟨rfl, num_isI HQy.out⟩))
                    have hs9 : pk.heap.size ≤ u9.heap.size := Nat.le_trans HWR.out hGy.size
                    obtain ⟨i0_, hi, hz0, hz1, hz2⟩ := info_parts getw.info_int
                    clear hG9 hu1 hu3
                    have hAu := hA.chg hGy (by omega)
                    have hAuc := hAu.cell
                    have hAul := hAu.lt
                    have hNA := own_apart (getw.grow_base HGR.out) (show Q < pk.heap.size by omega)
                    go_wp2_with (at_builtin; refine wpList_append_lies _ rfl _ _ 41 rfl pk.heap.size 3 i0_ (.int .i64 0) 1 8 Tryz.underlying41 hi hz0 hz1 hz2 rfl (by decide) _ _ _ rfl (hu2.alloc _) ⟨u9.heap.size, 0, none⟩ 1 1 [.int .i64 y] rfl rfl (getw.news_at rfl rfl) (by intro u hu; simp at hu; subst hu; rfl) (by decide) (by unfold maxLen; omega) (by omega) (by simp; omega) (u9.heap.size + 1) (by simp) ?_; intro g cap' w9 hown hgrow hat hlt1; have hA9 : Blk w9 Q #[.string px0, .bool px1, v, .int .i64 0, .bool false, .int .i64 0] 154 := (hgrow.block Q (by simp; omega) (by first | exact hNA | exact fun e => hNA e.symm)).trans (hAu.alloc _); have hA9c := hA9.cell; have hA9f := hA9.frozen; have hA9l := hA9.lt)
                    obtain ⟨hN1, hN2, hN3⟩ := grow_next hGy HU.out.1 HU.out.2 HXS.out hown hgrow hat HV2.out rfl rfl getv.int_keeps
                    have HIT := Lib.hid (show qNum (some r) = (y, yt) by simp only [HQy.out])
                    have HTN2 := Lib.hid (show T3 = qPre (xs ++ [y]) (qLoop qNum q yt) by rw [HTN.out, HIT.out])
                    have HFN2 := Lib.hid (show Fits L (k + 1) yt by have := HFN.out; rw [HIT.out] at this; exact this)
                    have hRn := (hRy.chg hN3 (fun e => by have := (HGB.out S e).1; omega) (fun i e => by have := (HGB.out i e).1; have := HSW.out; omega)).setFar (p := ⟨Q, 2, none⟩) (by show Q ≠ S; omega) (by have := HSW.out; show _ ≤ Q; omega) (.slice (some ⟨g, 0, none⟩) (k + 1) cap')
                    have hCn : Chg (fun i => i = S ∨ i = Q) pk (w9.setCell ⟨Q, 2, none⟩ (.slice (some ⟨g, 0, none⟩) (k + 1) cap')) := (hCr.trans hN2 (fun i hi e => e.elim (fun e => .inl e) (fun e => by have := (HGB.out i e).1; omega))).setCell (p := ⟨Q, 2, none⟩) (fun _ => .inr rfl) _
                    have hGn := hN1.chg getv.int_keeps ((Chg.refl (fun i => i = Q) w9).setCell (p := ⟨Q, 2, none⟩) (fun _ => rfl) (.slice (some ⟨g, 0, none⟩) (k + 1) cap')) (fun i hi => by omega)
                    have hAn : Blk (w9.setCell ⟨Q, 2, none⟩ (.slice (some ⟨g, 0, none⟩) (k + 1) cap')) Q #[.string px0, .bool px1, .slice (some ⟨g, 0, none⟩) (k + 1) cap', .int .i64 0, .bool false, .int .i64 0] 154 := hA9.set 2 _
                    go_roundw
                    case rel => exact ⟨k + 1, _, xs ++ [y], yt, by go_num, by simp [HXS.out], hAn, hGn, hRn, HFN2.out, by omega, hCn, by rw [HQQ.out]; exact HTN2.out⟩
                    case measure => simp [intOf]; omega
                  | none =>
                    have hbad : wr.cell? ⟨S, 2, none⟩ = some (.bool true) := hbad
                    have hend := Lib.hid (hTr.out.trans (pre_end (.inr rfl)))
                    clear hTr
                    go_wp2_with fail
                    go_meet
                    exact ⟨v, xs, none, hA, hG, hR, hCr, hend⟩
                · have hend := Lib.hid (hTr.out.trans (pre_end (.inl (by omega))))
                  clear hTr
                  go_wp2_with fail
                  go_meet
                  exact ⟨v, xs, st, hA, hG, hR, hCr, hend⟩
            case rest =>
              generalize wc = pc at *
              obtain ⟨pv, ys, ptl, hV3, hG3, hR3, hC3, hTe3⟩ := hcut
              have hG4 : Chg (fun i => i = S) wr pc := hGpk.trans hC3 (fun i hi e => e.elim id (fun e => by omega))
              have hrow3 := (hG3.row getv.int_keeps getv.int_lies).keeps (fun _ _ _ => IntIn.keeps (keeps_low (show Q + 1 ≤ pk.heap.size by omega))) (keeps_low (show Q + 1 ≤ pk.heap.size by omega))
              obtain ⟨a3, c3, rfl, hle3, hcm3, hI3⟩ := hrow3
              clear hG3 hVpk hRpk hGpk hC3
              obtain ⟨px3, pt3, hqp3⟩ : ∃ y z, qNum ptl = (y, z) := ⟨_, _, rfl⟩
              have HCp3 := Lib.hid (number_any hR3)
              rw [hqp3] at HCp3
              have HQp3 := Lib.hid hqp3
              clear hqp3
              go_wp2_with fail
              refine HCp3.out.mono ?_
              rintro e pw3 ⟨hCp3, hRp3, v, rfl, rfl⟩
              have hRp3 : RfAt W pw3 S L pt3 := hRp3
              clear HCp3
              have hVp3 := hV3.chg hCp3 (by omega)
              have hGp3 := hG4.then hCp3
              have hI3p3 := allin_chg (In := IntIn) (fun hk _ _ _ => IntIn.keeps hk) hI3 hCp3 (fun i hi => by omega)
              clear hV3 hG4 hR3 hCp3
              have hVc := hVp3.cell
              have hVf := hVp3.frozen
              have hVl := hVp3.lt
              have hVp3s : Blk (pw3.setCell ⟨Q, 3, none⟩ (.int .i64 px3)) Q #[.string px0, .bool px1, .slice a3 ys.length c3, .int .i64 px3, .bool false, .int .i64 0] 154 := hVp3.set 3 _
              have hGp3s := hGp3.setNew (p := ⟨Q, 3, none⟩) (by show _ ≤ Q; omega) (.int .i64 px3)
              have hRp3s : RfAt W (pw3.setCell ⟨Q, 3, none⟩ (.int .i64 px3)) S L pt3 := hRp3.setFar (p := ⟨Q, 3, none⟩) (by show Q ≠ S; omega) (by have := HWl.out; have := HWR.out; have := HCW.out; show _ ≤ Q; omega) _
              have hI3p3s := allin_set (In := IntIn) (B := Q + 1) (p := ⟨Q, 3, none⟩) (fun hk _ _ _ => IntIn.keeps hk) hI3p3 (by simp) (.int .i64 px3)
              obtain ⟨px4, pt4, hqp4⟩ : ∃ y z, qTruth pt3 = (y, z) := ⟨_, _, rfl⟩
              have HCp4 := Lib.hid (truth_any hRp3s)
              rw [hqp4] at HCp4
              have HQp4 := Lib.hid hqp4
              clear hqp4
              go_wp2_with fail
              refine HCp4.out.mono ?_
              rintro e pw4 ⟨hCp4, hRp4, v, rfl, rfl⟩
              have hRp4 : RfAt W pw4 S L pt4 := hRp4
              clear HCp4
              have hVp4 := hVp3s.chg hCp4 (by omega)
              have hGp4 := hGp3s.then hCp4
              have hI3p3sp4 := allin_chg (In := IntIn) (fun hk _ _ _ => IntIn.keeps hk) hI3p3s hCp4 (fun i hi => by omega)
              clear hVp3s hGp3s hRp3s hCp4
              have hVc := hVp4.cell
              have hVf := hVp4.frozen
              have hVl := hVp4.lt
              have hVp4s : Blk (pw4.setCell ⟨Q, 4, none⟩ (.bool px4)) Q #[.string px0, .bool px1, .slice a3 ys.length c3, .int .i64 px3, .bool px4, .int .i64 0] 154 := hVp4.set 4 _
              have hGp4s := hGp4.setNew (p := ⟨Q, 4, none⟩) (by show _ ≤ Q; omega) (.bool px4)
              have hRp4s : RfAt W (pw4.setCell ⟨Q, 4, none⟩ (.bool px4)) S L pt4 := hRp4.setFar (p := ⟨Q, 4, none⟩) (by show Q ≠ S; omega) (by have := HWl.out; have := HWR.out; have := HCW.out; show _ ≤ Q; omega) _
              have hI3p3sp4s := allin_set (In := IntIn) (B := Q + 1) (p := ⟨Q, 4, none⟩) (fun hk _ _ _ => IntIn.keeps hk) hI3p3sp4 (by simp) (.bool px4)
              obtain ⟨px5, pt5, hqp5⟩ : ∃ y z, qNum pt4 = (y, z) := ⟨_, _, rfl⟩
              have HCp5 := Lib.hid (number_any hRp4s)
              rw [hqp5] at HCp5
              have HQp5 := Lib.hid hqp5
              clear hqp5
              go_wp2_with fail
              refine HCp5.out.mono ?_
              rintro e pw5 ⟨hCp5, hRp5, v, rfl, rfl⟩
              have hRp5 : RfAt W pw5 S L pt5 := hRp5
              clear HCp5
              have hVp5 := hVp4s.chg hCp5 (by omega)
              have hGp5 := hGp4s.then hCp5
              have hI3p3sp4sp5 := allin_chg (In := IntIn) (fun hk _ _ _ => IntIn.keeps hk) hI3p3sp4s hCp5 (fun i hi => by omega)
              clear hVp4s hGp4s hRp4s hCp5
              have hVc := hVp5.cell
              have hVf := hVp5.frozen
              have hVl := hVp5.lt
              have hVp5s : Blk (pw5.setCell ⟨Q, 5, none⟩ (.int .i64 px5)) Q #[.string px0, .bool px1, .slice a3 ys.length c3, .int .i64 px3, .bool px4, .int .i64 px5] 154 := hVp5.set 5 _
              have hGp5s := hGp5.setNew (p := ⟨Q, 5, none⟩) (by show _ ≤ Q; omega) (.int .i64 px5)
              have hRp5s : RfAt W (pw5.setCell ⟨Q, 5, none⟩ (.int .i64 px5)) S L pt5 := hRp5.setFar (p := ⟨Q, 5, none⟩) (by show Q ≠ S; omega) (by have := HWl.out; have := HWR.out; have := HCW.out; show _ ≤ Q; omega) _
              have hI3p3sp4sp5s := allin_set (In := IntIn) (B := Q + 1) (p := ⟨Q, 5, none⟩) (fun hk _ _ _ => IntIn.keeps hk) hI3p3sp4sp5 (by simp) (.int .i64 px5)
              go_upto_region 29 with (fail)
              generalize pw5.setCell ⟨Q, 5, none⟩ (.int .i64 px5) = u8 at *
              go_cut [] (fun w' => RfAt W w' S L (bad K pt5) ∧ Chg (fun i => i = S) u8 w')
              case first =>
                obtain ⟨hfl, hff⟩ := rf_flag hRp5s
                have HB := Lib.hid (bad_step hRp5s K)
                have hSl8 := hRp5s.lt
                generalize pt5.isNone = b at *
                obtain ⟨d, hd⟩ : ∃ d, decide (K < 0) = d := ⟨_, rfl⟩
                rw [hd] at HB
                cases b <;> cases d
                all_goals
                  go_wp2_with fail
                  go_meet
                  exact ⟨HB.out, (Chg.refl (fun i => i = S) u8).setCell (p := ⟨S, 2, none⟩) (fun _ => rfl) _⟩
              case rest =>
                generalize wc = u10_ at *
                obtain ⟨hR9, hC9⟩ := hcut
                have hV9 := hVp5s.chg hC9 (by omega)
                have hG9_ := hGp5s.then hC9
                have hI9 := allin_chg (In := IntIn) (fun hk _ _ _ => IntIn.keeps hk) hI3p3sp4sp5s hC9 (fun i hi => by omega)
                clear hVp5s hGp5s hRp5s hI3p3sp4sp5s hC9
                go_upto_region 30 with (fail)
                generalize u10_ = u9 at *
                have hG9 := HGR.out.chg getv.proc_keeps hG9_ (fun i hi => by omega)
                obtain ⟨us, hu1, hu2, hu3⟩ := hG9.ex
                rw [HXS.out] at hu2
                have HU := Lib.hid (And.intro hu1 hu3)
                have HGB := Lib.hid (getw.grow_base HGR.out)
                have HV2 := Lib.hid (getv.proc_keeps _ _ _ _ (getw.new_apart (w := u9) (getw.grow_base HGR.out) HWR.out) (show VProc ⟨px0, px1, ys, px3, px4, px5⟩ (.agg #[.string px0, .bool px1, .slice a3 ys.length c3, .int .i64 px3, .bool px4, .int .i64 px5]) _ from ⟨a3, c3, rfl, allin_low (In := IntIn) (fun hk _ _ _ => IntIn.keeps hk) hI9 (by omega), hle3, hcm3, Nat.le_trans HXp0.out (by unfold maxLen; omega)⟩))
                have hs9 : wd.heap.size ≤ u9.heap.size := Nat.le_trans HWR.out hG9_.size
                obtain ⟨i0_, hi, hz0, hz1, hz2⟩ := info_parts getw.info_proc
                clear hG9 hu1 hu3
                have hAu := hA.chg hG9_ (by omega)
                have hAuc := hAu.cell
                have hAul := hAu.lt
                have hNA := own_apart (getw.grow_base HGR.out) (show A < wd.heap.size by omega)
                have hQc := hV9.cell
                have hQl := hV9.lt
                go_wp2_with (at_builtin; refine wpList_append_lies _ rfl _ _ 23 rfl wd.heap.size 154 i0_ (.agg #[.string ⟨#[]⟩, .bool false, .slice none 0 0, .int .i64 0, .bool false, .int .i64 0]) 6 72 Tryz.underlying23 hi hz0 hz1 hz2 rfl (by decide) _ _ _ rfl (hu2.alloc _) ⟨u9.heap.size, 0, none⟩ 1 1 [.string px0, .bool px1, .slice a3 ys.length c3, .int .i64 px3, .bool px4, .int .i64 px5] rfl rfl (getw.news_at rfl rfl) (by intro u hu; simp at hu; rcases hu with rfl | rfl | rfl | rfl | rfl | rfl <;> rfl) (by decide) (by unfold maxLen; omega) (by omega) (by simp; omega) (u9.heap.size + 1) (by simp) ?_; intro g cap' w9 hown hgrow hat hlt1; have hA9 : Blk w9 A #[.string x0, .slice a1 xs1.length c1, v] 25 := (hgrow.block A (by simp; omega) (by first | exact hNA | exact fun e => hNA e.symm)).trans (hAu.alloc _); have hA9c := hA9.cell; have hA9f := hA9.frozen; have hA9l := hA9.lt)
                obtain ⟨hN1, hN2, hN3⟩ := grow_next hG9_ HU.out.1 HU.out.2 HXS.out hown hgrow hat HV2.out rfl rfl getv.proc_keeps
                have HIT := Lib.hid (show qProc (some r) = (⟨px0, px1, ys, px3, px4, px5⟩, (bad K pt5)) by simp only [qProc, qMap, qList, HQp0.out, HQp1.out, HQpk.out, HT3.out, hTe3.out, HQp3.out, HQp4.out, HQp5.out])
                have HTN2 := Lib.hid (show T2 = qPre (xs ++ [⟨px0, px1, ys, px3, px4, px5⟩]) (qLoop qProc q (bad K pt5)) by rw [HTN.out, HIT.out])
                have HFN2 := Lib.hid (show Fits L (k + 1) (bad K pt5) by have := HFN.out; rw [HIT.out] at this; exact this)
                have hRn := (hR9.chg hN3 (fun e => by have := (HGB.out S e).1; omega) (fun i e => by have := (HGB.out i e).1; have := HWl.out; have := HCW.out; omega)).setFar (p := ⟨A, 2, none⟩) (by show A ≠ S; omega) (by have := HWl.out; have := HCW.out; show _ ≤ A; omega) (.slice (some ⟨g, 0, none⟩) (k + 1) cap')
                have hCn : Chg (fun i => i = S ∨ i = A) wd (w9.setCell ⟨A, 2, none⟩ (.slice (some ⟨g, 0, none⟩) (k + 1) cap')) := (hCr.trans hN2 (fun i hi e => e.elim (fun e => .inl e) (fun e => by have := (HGB.out i e).1; omega))).setCell (p := ⟨A, 2, none⟩) (fun _ => .inr rfl) _
                have hGn := hN1.chg getv.proc_keeps ((Chg.refl (fun i => i = A) w9).setCell (p := ⟨A, 2, none⟩) (fun _ => rfl) (.slice (some ⟨g, 0, none⟩) (k + 1) cap')) (fun i hi => by omega)
                have hAn : Blk (w9.setCell ⟨A, 2, none⟩ (.slice (some ⟨g, 0, none⟩) (k + 1) cap')) A #[.string x0, .slice a1 xs1.length c1, .slice (some ⟨g, 0, none⟩) (k + 1) cap'] 25 := hA9.set 2 _
                go_roundw
                case rel => exact ⟨k + 1, _, xs ++ [⟨px0, px1, ys, px3, px4, px5⟩], (bad K pt5), by go_num, by simp [HXS.out], hAn, hGn, hRn, HFN2.out, by omega, hCn, by rw [HQQ.out]; exact HTN2.out⟩
                case measure => simp [intOf]; omega
          | none =>
            have hbad : wr.cell? ⟨S, 2, none⟩ = some (.bool true) := hbad
            have hend := Lib.hid (hTr.out.trans (pre_end (.inr rfl)))
            clear hTr
            go_wp2_with fail
            go_meet
            exact ⟨v, xs, none, hA, hG, hR, hCr, hend⟩
        · have hend := Lib.hid (hTr.out.trans (pre_end (.inl (by omega))))
          clear hTr
          go_wp2_with fail
          go_meet
          exact ⟨v, xs, st, hA, hG, hR, hCr, hend⟩
    case rest =>
      generalize wc = we at *
      obtain ⟨vb, xs2, se, hA2, hG2, hR2, hC2, hTe2⟩ := hcut
      have hD2 := hDd.chg hC2 (by omega)
      have hCC2 : Chg (fun i => i = S) w we := hCCd.trans hC2 (fun i hi e => e.elim id (fun e => by omega))
      have hI2 := allin_chg (In := VarIn) (fun hk _ _ _ => VarIn.keeps hk) hId hC2 (fun i hi => by omega)
      have hrow2 := (hG2.row getv.proc_keeps getv.proc_lies).keeps (fun _ _ _ => ProcIn.keeps (keeps_low (show A + 1 ≤ wd.heap.size by omega))) (keeps_low (show A + 1 ≤ wd.heap.size by omega))
      obtain ⟨a2, c2, rfl, hle2, hcm2, hJ2⟩ := hrow2
      clear hG2 hC2 hDd hAd hRd hCCd hId
      go_upto_region 31 with (fail)
      go_cut [] (fun w' => RfAt W w' S L (bad N (bad M se)) ∧ Chg (fun i => i = S) we w')
      case first =>
        obtain ⟨hfl, hff⟩ := rf_flag hR2
        have HB := Lib.hid (bad_step2 hR2 N M)
        have hSl8 := hR2.lt
        generalize se.isNone = b at *
        obtain ⟨d, hd⟩ : ∃ d, decide (N < 0) = d := ⟨_, rfl⟩
        obtain ⟨f, hf⟩ : ∃ f, decide (M < 0) = f := ⟨_, rfl⟩
        rw [hd, hf] at HB
        cases b <;> cases d <;> cases f
        all_goals
          go_wp2_with fail
          go_meet
          exact ⟨HB.out, (Chg.refl (fun i => i = S) we).setCell (p := ⟨S, 2, none⟩) (fun _ => rfl) _⟩
      case rest =>
        generalize wc = wf at *
        obtain ⟨hR9, hC9⟩ := hcut
        have hD9 := hD2.chg hC9 (by omega)
        have hA9 := hA2.chg hC9 (by omega)
        have hCC9 := hCC2.then hC9
        have hI9 := allin_chg (In := VarIn) (fun hk _ _ _ => VarIn.keeps hk) hI2 hC9 (fun i hi => by omega)
        have hJ9 := allin_chg (In := ProcIn) (fun hk _ _ _ => ProcIn.keeps hk) hJ2 hC9 (fun i hi => by omega)
        have hRE := Lib.hid (show RES = (⟨x0, xs1, xs2⟩, bad N (bad M se)) by rw [← HRES.out]; simp only [qFace, qMap, qList, HQa.out, HQb.out, HT1.out, hTe1.out, HQd.out, HT2.out, hTe2.out])
        clear hD2 hA2 hCC2 hI2 hJ2 hR2 hC9
        have hAc := hA9.cell
        have hAl := hA9.lt
        have hDc := hD9.cell
        have hDf := hD9.frozen
        have hDl := hD9.lt
        go_wp2_with fail
        refine ends_cell rfl rfl rfl (((hD9.set 0 _).set 1 _).set 2 _) Tryz.underlying25 rfl (by kernel_rfl) ?_
        rw [hRE.out]
        refine ⟨((hCC9.setNew (p := ⟨D, 0, none⟩) (by show _ ≤ D; omega) _).setNew (p := ⟨D, 1, none⟩) (by show _ ≤ D; omega) _).setNew (p := ⟨D, 2, none⟩) (by show _ ≤ D; omega) _, ((hR9.setFar (p := ⟨D, 0, none⟩) (by show D ≠ S; omega) (by have := HWl.out; show _ ≤ D; omega) _).setFar (p := ⟨D, 1, none⟩) (by show D ≠ S; omega) (by have := HWl.out; show _ ≤ D; omega) _).setFar (p := ⟨D, 2, none⟩) (by show D ≠ S; omega) (by have := HWl.out; show _ ≤ D; omega) _, _, rfl, ?_⟩
        have hI := allin_low (B2 := w.heap.size) (In := VarIn) (fun hk _ _ _ => VarIn.keeps hk) (allin_set (In := VarIn) (B := A + 1) (p := ⟨D, 2, none⟩) (fun hk _ _ _ => VarIn.keeps hk) (allin_set (In := VarIn) (B := A + 1) (p := ⟨D, 1, none⟩) (fun hk _ _ _ => VarIn.keeps hk) (allin_set (In := VarIn) (B := A + 1) (p := ⟨D, 0, none⟩) (fun hk _ _ _ => VarIn.keeps hk) hI9 (by show D < _; omega) (.string x0)) (by show D < _; omega) (.slice a1 xs1.length c1)) (by show D < _; omega) (.slice a2 xs2.length c2)) (by omega)
        have hJ := allin_low (B2 := w.heap.size) (In := ProcIn) (fun hk _ _ _ => ProcIn.keeps hk) (allin_set (In := ProcIn) (B := A + 1) (p := ⟨D, 2, none⟩) (fun hk _ _ _ => ProcIn.keeps hk) (allin_set (In := ProcIn) (B := A + 1) (p := ⟨D, 1, none⟩) (fun hk _ _ _ => ProcIn.keeps hk) (allin_set (In := ProcIn) (B := A + 1) (p := ⟨D, 0, none⟩) (fun hk _ _ _ => ProcIn.keeps hk) hJ9 (by show D < _; omega) (.string x0)) (by show D < _; omega) (.slice a1 xs1.length c1)) (by show D < _; omega) (.slice a2 xs2.length c2)) (by omega)
        exact ⟨a1, c1, a2, c2, rfl, hI, hJ, Nat.le_trans HX0.out (by unfold maxLen; omega), hle1, hcm1, hle2, hcm2⟩
end getr
end Go.Proofs.YtpcihajmcejliaaGreatDoor
namespace Go.Proofs.YtpcihajmcejliaaGreatDoor
open Go.RowKit
namespace getr
theorem plc_list : Agree (rdItems rdPlc) (qList qPlc fun xs s => (xs, s)) := by
  have e : rdItems rdPlc = rdMap (rdItems rdPlc) (fun xs l => some (xs, l)) := by
    funext l
    unfold rdMap
    cases rdItems rdPlc l with
    | none => rfl
    | some o => rfl
  rw [e]
  exact list plc getw.plc_le fun xs => done xs
theorem obj : Agree rdObj qObj :=
  map (map text fun _ => list var getw.var_le fun _ => list (proc getw.num_le) getw.proc_le fun _ => done _) fun _ => list (map text fun _ => list var getw.var_le fun _ => list (proc getw.num_le) getw.proc_le fun _ => done _) getw.face_le fun _ => list ins getw.ins_le fun _ => list rel getw.rel_le fun _ =>
    map plc_list fun _ => map plc_list fun _ => map plc_list fun _ => map num fun _ => map num fun _ => map num fun _ => map num fun _ => done _
theorem face : Agree rdFace qFace := map text fun _ => list var getw.var_le fun _ => list (proc getw.num_le) getw.proc_le fun _ => done _
theorem qMap_eq {α β : Type} {q : Qrs α} {g : α → Qrs β} {s s' : St} {x : α} (h : q s = (x, s')) : qMap q g s = g x s' := by unfold qMap; rw [h]
theorem list_step {α β : Type} {q : Qrs α} {g : List α → Qrs β} {s s1 s2 : St} {n : Int} {xs : List α} (h : qNum s = (n, s1)) (h2 : qLoop q n.toNat s1 = (xs, s2)) : qList q g s = ((g xs s2).1, bad n (g xs s2).2) := by
  unfold qList qMap; rw [h]; simp only; rw [h2]
theorem bad_some {n : Int} {s : St} {r : List UInt8} (h : bad n s = some r) : 0 ≤ n ∧ s = some r := by
  unfold bad at h
  by_cases hn : n < 0
  · rw [if_pos hn] at h; cases h
  · rw [if_neg hn] at h; exact ⟨by omega, h⟩
theorem obj_iff {L : List UInt8} {x : FObj} (h : qObj (some L) = (x, some [])) : rdObj L = some (x, []) := by
  cases hp : rdObj L with
  | none => have := obj.no L hp; rw [h] at this; cases this
  | some q =>
    obtain ⟨y, r⟩ := q
    have := obj.yes _ _ _ hp
    rw [h] at this
    cases this
    rfl
set_option maxRecDepth 100000 in
set_option maxHeartbeats 32000000 in
theorem get_any (L : List UInt8) (v : Value) (w : World) (hv : BytesAt w L v) (hs1 : L.length ≤ 1048576)
    (hM : ∀ u x v, Ext w u → ObjAt u x v → ObjSmall x → Calls Tryz.prog 9 #[v] u fun e w' => e = .returned (.bool (mayObjB x)) ∧ Ext u w') :
    Calls Tryz.prog 19 #[v] w (getw.GetPost w (rdObj L)) := by
  have hs : L.length ≤ 100000000 := by omega
  obtain ⟨T, hT⟩ : ∃ T, rdObj L = T := ⟨_, rfl⟩
  have HT := Lib.hid hT
  rw [hT]
  obtain ⟨a, c, rfl, h1, h2, h3⟩ := hv.ex
  obtain ⟨D, hDe⟩ : ∃ D, w.heap.size = D := ⟨_, rfl⟩
  obtain ⟨S, hSe⟩ : ∃ S, D + 1 = S := ⟨_, rfl⟩
  obtain ⟨A, hAe⟩ : ∃ A, S + 1 = A := ⟨_, rfl⟩
  have hD0 : Blk (((w.alloc (.cells #[.string ⟨#[]⟩, .slice none 0 0, .slice none 0 0, .slice none 0 0, .slice none 0 0, .slice none 0 0, .slice none 0 0, .slice none 0 0, .slice none 0 0, .int .i64 0, .int .i64 0, .int .i64 0, .int .i64 0] 31)).alloc (.cells #[.slice a L.length c, .int .i64 0, .bool false] 143)).alloc (.cells #[.string ⟨#[]⟩, .slice none 0 0, .slice none 0 0, .slice none 0 0, .slice none 0 0, .slice none 0 0, .slice none 0 0, .slice none 0 0, .slice none 0 0, .int .i64 0, .int .i64 0, .int .i64 0, .int .i64 0] 31)) D #[.string ⟨#[]⟩, .slice none 0 0, .slice none 0 0, .slice none 0 0, .slice none 0 0, .slice none 0 0, .slice none 0 0, .slice none 0 0, .slice none 0 0, .int .i64 0, .int .i64 0, .int .i64 0, .int .i64 0] 31 := by
    rw [← hDe]
    exact ((Blk.made w #[.string ⟨#[]⟩, .slice none 0 0, .slice none 0 0, .slice none 0 0, .slice none 0 0, .slice none 0 0, .slice none 0 0, .slice none 0 0, .slice none 0 0, .int .i64 0, .int .i64 0, .int .i64 0, .int .i64 0] 31).alloc (.cells #[.slice a L.length c, .int .i64 0, .bool false] 143)).alloc (.cells #[.string ⟨#[]⟩, .slice none 0 0, .slice none 0 0, .slice none 0 0, .slice none 0 0, .slice none 0 0, .slice none 0 0, .slice none 0 0, .slice none 0 0, .int .i64 0, .int .i64 0, .int .i64 0, .int .i64 0] 31)
  have hS0 : Blk (((w.alloc (.cells #[.string ⟨#[]⟩, .slice none 0 0, .slice none 0 0, .slice none 0 0, .slice none 0 0, .slice none 0 0, .slice none 0 0, .slice none 0 0, .slice none 0 0, .int .i64 0, .int .i64 0, .int .i64 0, .int .i64 0] 31)).alloc (.cells #[.slice a L.length c, .int .i64 0, .bool false] 143)).alloc (.cells #[.string ⟨#[]⟩, .slice none 0 0, .slice none 0 0, .slice none 0 0, .slice none 0 0, .slice none 0 0, .slice none 0 0, .slice none 0 0, .slice none 0 0, .int .i64 0, .int .i64 0, .int .i64 0, .int .i64 0] 31)) S #[.slice a L.length c, .int .i64 0, .bool false] 143 := by
    rw [← hSe, ← hDe]
    exact (Blk.made2 w (.cells #[.string ⟨#[]⟩, .slice none 0 0, .slice none 0 0, .slice none 0 0, .slice none 0 0, .slice none 0 0, .slice none 0 0, .slice none 0 0, .slice none 0 0, .int .i64 0, .int .i64 0, .int .i64 0, .int .i64 0] 31) #[.slice a L.length c, .int .i64 0, .bool false] 143).alloc (.cells #[.string ⟨#[]⟩, .slice none 0 0, .slice none 0 0, .slice none 0 0, .slice none 0 0, .slice none 0 0, .slice none 0 0, .slice none 0 0, .slice none 0 0, .int .i64 0, .int .i64 0, .int .i64 0, .int .i64 0] 31)
  have hA0 : Blk (((w.alloc (.cells #[.string ⟨#[]⟩, .slice none 0 0, .slice none 0 0, .slice none 0 0, .slice none 0 0, .slice none 0 0, .slice none 0 0, .slice none 0 0, .slice none 0 0, .int .i64 0, .int .i64 0, .int .i64 0, .int .i64 0] 31)).alloc (.cells #[.slice a L.length c, .int .i64 0, .bool false] 143)).alloc (.cells #[.string ⟨#[]⟩, .slice none 0 0, .slice none 0 0, .slice none 0 0, .slice none 0 0, .slice none 0 0, .slice none 0 0, .slice none 0 0, .slice none 0 0, .int .i64 0, .int .i64 0, .int .i64 0, .int .i64 0] 31)) A #[.string ⟨#[]⟩, .slice none 0 0, .slice none 0 0, .slice none 0 0, .slice none 0 0, .slice none 0 0, .slice none 0 0, .slice none 0 0, .slice none 0 0, .int .i64 0, .int .i64 0, .int .i64 0, .int .i64 0] 31 := by
    have h := Blk.made ((w.alloc (.cells #[.string ⟨#[]⟩, .slice none 0 0, .slice none 0 0, .slice none 0 0, .slice none 0 0, .slice none 0 0, .slice none 0 0, .slice none 0 0, .slice none 0 0, .int .i64 0, .int .i64 0, .int .i64 0, .int .i64 0] 31)).alloc (.cells #[.slice a L.length c, .int .i64 0, .bool false] 143)) #[.string ⟨#[]⟩, .slice none 0 0, .slice none 0 0, .slice none 0 0, .slice none 0 0, .slice none 0 0, .slice none 0 0, .slice none 0 0, .slice none 0 0, .int .i64 0, .int .i64 0, .int .i64 0, .int .i64 0] 31
    have e : ((w.alloc (.cells #[.string ⟨#[]⟩, .slice none 0 0, .slice none 0 0, .slice none 0 0, .slice none 0 0, .slice none 0 0, .slice none 0 0, .slice none 0 0, .slice none 0 0, .int .i64 0, .int .i64 0, .int .i64 0, .int .i64 0] 31)).alloc (.cells #[.slice a L.length c, .int .i64 0, .bool false] 143)).heap.size = A := by simp; omega
    rwa [e] at h
  have hX0 : Ext w (((w.alloc (.cells #[.string ⟨#[]⟩, .slice none 0 0, .slice none 0 0, .slice none 0 0, .slice none 0 0, .slice none 0 0, .slice none 0 0, .slice none 0 0, .slice none 0 0, .int .i64 0, .int .i64 0, .int .i64 0, .int .i64 0] 31)).alloc (.cells #[.slice a L.length c, .int .i64 0, .bool false] 143)).alloc (.cells #[.string ⟨#[]⟩, .slice none 0 0, .slice none 0 0, .slice none 0 0, .slice none 0 0, .slice none 0 0, .slice none 0 0, .slice none 0 0, .slice none 0 0, .int .i64 0, .int .i64 0, .int .i64 0, .int .i64 0] 31)) := (((Chg.refl _ w).alloc _).alloc _).alloc _
  have hR0 : RfAt w (((w.alloc (.cells #[.string ⟨#[]⟩, .slice none 0 0, .slice none 0 0, .slice none 0 0, .slice none 0 0, .slice none 0 0, .slice none 0 0, .slice none 0 0, .slice none 0 0, .int .i64 0, .int .i64 0, .int .i64 0, .int .i64 0] 31)).alloc (.cells #[.slice a L.length c, .int .i64 0, .bool false] 143)).alloc (.cells #[.string ⟨#[]⟩, .slice none 0 0, .slice none 0 0, .slice none 0 0, .slice none 0 0, .slice none 0 0, .slice none 0 0, .slice none 0 0, .slice none 0 0, .int .i64 0, .int .i64 0, .int .i64 0, .int .i64 0] 31)) S L (some L) := ⟨⟨_, 0, false, hS0, hv, Nat.zero_le _, rfl, rfl⟩, hX0, by omega⟩
  have HWl := Lib.hid (show w.heap.size ≤ w.heap.size from Nat.le_refl _)
  have HM := Lib.hid hM
  have HV := Lib.hid hv
  have HRES := Lib.hid (show ∀ y s', qObj (some L) = (y, s') → True from fun _ _ _ => trivial)
  clear hv hM hT h3 hS0
  go_enter Tryz.func19, Tryz.ntmps19
  go_wp2_with fail
  generalize (((w.alloc (.cells #[.string ⟨#[]⟩, .slice none 0 0, .slice none 0 0, .slice none 0 0, .slice none 0 0, .slice none 0 0, .slice none 0 0, .slice none 0 0, .slice none 0 0, .int .i64 0, .int .i64 0, .int .i64 0, .int .i64 0] 31)).alloc (.cells #[.slice a L.length c, .int .i64 0, .bool false] 143)).alloc (.cells #[.string ⟨#[]⟩, .slice none 0 0, .slice none 0 0, .slice none 0 0, .slice none 0 0, .slice none 0 0, .slice none 0 0, .slice none 0 0, .slice none 0 0, .int .i64 0, .int .i64 0, .int .i64 0, .int .i64 0] 31)) = w0 at *
  obtain ⟨x1, s1, hqz⟩ : ∃ y z, qFace (some L) = (y, z) := ⟨_, _, rfl⟩
  have HCz := Lib.hid (face_any hR0 hs)
  rw [hqz] at HCz
  have HQz := Lib.hid hqz
  clear hqz
  refine HCz.out.mono ?_
  rintro e wf ⟨hCz, hRz, v, rfl, hv⟩
  have hRz : RfAt w wf S L s1 := hRz
  clear HCz
  have hf : FaceAt _ x1 _ := hv
  have hw0 := hA0.lt
  have hf2 := hf
  obtain ⟨fa, fm, fc, fd, rfl, -⟩ := hf2
  clear hv
  have hOf : getw.ObjD (hide (below (A + 1)) wf) x1 fa fm fc fd [] none [] none [] none [] none [] none [] none := ⟨FaceAt.keeps (keeps_low (by omega)) hf, (getw.ObjD.nil _).2⟩
  clear hf hR0
  have hXz := getw.ext_rd hX0 (by omega) hCz
  have hDz := hD0.chg hCz (by omega)
  have hAz := hA0.chg hCz (by omega)
  clear hX0 hD0 hA0 hCz
  have hAc := hAz.cell
  have hAf := hAz.frozen
  have hAl := hAz.lt
  have hAzs : Blk (((wf.setCell ⟨A, 0, none⟩ (.string x1.modn)).setCell ⟨A, 1, none⟩ (.slice fa x1.vars.length fm)).setCell ⟨A, 2, none⟩ (.slice fc x1.procs.length fd)) A #[.string x1.modn, .slice fa x1.vars.length fm, .slice fc x1.procs.length fd, .slice none 0 0, .slice none 0 0, .slice none 0 0, .slice none 0 0, .slice none 0 0, .slice none 0 0, .int .i64 0, .int .i64 0, .int .i64 0, .int .i64 0] 31 := (((hAz.set 0 _).set 1 _).set 2 _)
  have hDzs : Blk (((wf.setCell ⟨A, 0, none⟩ (.string x1.modn)).setCell ⟨A, 1, none⟩ (.slice fa x1.vars.length fm)).setCell ⟨A, 2, none⟩ (.slice fc x1.procs.length fd)) D #[.string ⟨#[]⟩, .slice none 0 0, .slice none 0 0, .slice none 0 0, .slice none 0 0, .slice none 0 0, .slice none 0 0, .slice none 0 0, .slice none 0 0, .int .i64 0, .int .i64 0, .int .i64 0, .int .i64 0] 31 := (((hDz.setOther (p := ⟨A, 0, none⟩) (by show _ ≠ A; omega) _).setOther (p := ⟨A, 1, none⟩) (by show _ ≠ A; omega) _).setOther (p := ⟨A, 2, none⟩) (by show _ ≠ A; omega) _)
  have hXzs : Ext w (((wf.setCell ⟨A, 0, none⟩ (.string x1.modn)).setCell ⟨A, 1, none⟩ (.slice fa x1.vars.length fm)).setCell ⟨A, 2, none⟩ (.slice fc x1.procs.length fd)) := (((hXz.setNew (p := ⟨A, 0, none⟩) (by show _ ≤ A; omega) _).setNew (p := ⟨A, 1, none⟩) (by show _ ≤ A; omega) _).setNew (p := ⟨A, 2, none⟩) (by show _ ≤ A; omega) _)
  have hRzs : RfAt w (((wf.setCell ⟨A, 0, none⟩ (.string x1.modn)).setCell ⟨A, 1, none⟩ (.slice fa x1.vars.length fm)).setCell ⟨A, 2, none⟩ (.slice fc x1.procs.length fd)) S L s1 := (((hRz.setFar (p := ⟨A, 0, none⟩) (by show A ≠ S; omega) (by show _ ≤ A; omega) _).setFar (p := ⟨A, 1, none⟩) (by show A ≠ S; omega) (by show _ ≤ A; omega) _).setFar (p := ⟨A, 2, none⟩) (by show A ≠ S; omega) (by show _ ≤ A; omega) _)
  have hOzs : getw.ObjD (hide (below (A + 1)) (((wf.setCell ⟨A, 0, none⟩ (.string x1.modn)).setCell ⟨A, 1, none⟩ (.slice fa x1.vars.length fm)).setCell ⟨A, 2, none⟩ (.slice fc x1.procs.length fd))) x1 fa fm fc fd [] none [] none [] none [] none [] none [] none := (((hOf.set (p := ⟨A, 0, none⟩) (by show A < _; omega) _).set (p := ⟨A, 1, none⟩) (by show A < _; omega) _).set (p := ⟨A, 2, none⟩) (by show A < _; omega) _)
  obtain ⟨N, n1, hqn⟩ : ∃ y z, qNum s1 = (y, z) := ⟨_, _, rfl⟩
  have HCn := Lib.hid (number_any hRzs)
  rw [hqn] at HCn
  have HQn := Lib.hid hqn
  clear hqn
  go_wp2_with fail
  refine HCn.out.mono ?_
  rintro e wn ⟨hCn, hRn, v, rfl, rfl⟩
  have hRn : RfAt w wn S L n1 := hRn
  clear HCn
  have hXn := getw.ext_rd hXzs (by omega) hCn
  have hDn := hDzs.chg hCn (by omega)
  have hAn := hAzs.chg hCn (by omega)
  have hOn := hOzs.chg hCn (fun i hi => by omega)
  clear hXzs hDzs hAzs hOzs hCn
  obtain ⟨Tn, hTn⟩ : ∃ T, qLoop qFace N.toNat n1 = T := ⟨_, rfl⟩
  have HTn := Lib.hid hTn
  have hAnl := hAn.lt
  clear hTn
  go_upto_block 0 with (fail)
  go_cut [] (fun w' => ∃ (v : Value) (xs : List FFace) (st : St), Blk w' A #[.string x1.modn, .slice fa x1.vars.length fm, .slice fc x1.procs.length fd, v, .slice none 0 0, .slice none 0 0, .slice none 0 0, .slice none 0 0, .slice none 0 0, .int .i64 0, .int .i64 0, .int .i64 0, .int .i64 0] 31 ∧ Grow 3 25 VFace wn.heap.size w' v xs ∧ RfAt w w' S L st ∧ Chg (fun i => i = S ∨ i = A) wn w' ∧ Hid (Tn = (xs, st)))
  case first =>
    go_wp2_with fail
    go_loopw [7] (fun si wr => ∃ (k : Nat) (v : Value) (xs : List FFace) (st : St), si = .int .i64 k ∧ xs.length = k ∧ Blk wr A #[.string x1.modn, .slice fa x1.vars.length fm, .slice fc x1.procs.length fd, v, .slice none 0 0, .slice none 0 0, .slice none 0 0, .slice none 0 0, .slice none 0 0, .int .i64 0, .int .i64 0, .int .i64 0, .int .i64 0] 31 ∧ Grow 3 25 VFace wn.heap.size wr v xs ∧ RfAt w wr S L st ∧ Fits L k st ∧ (k : Int) ≤ max N 0 ∧ Chg (fun i => i = S ∨ i = A) wn wr ∧ Hid (Tn = qPre xs (qLoop qFace (N.toNat - k) st))) (fun si _ => N.toNat - (intOf si).toNat)
    case atStart => exact ⟨0, _, [], n1, rfl, rfl, hAn, Grow.nil _ _ _ _ _, hRn, Fits.start (rf_len hRn), by omega, Chg.refl _ _, HTn.out.symm⟩
    case round =>
      have HCW := Lib.hid (show w.heap.size ≤ wn.heap.size from hXn.size)
      clear hXn hDn hAn hOn hRn HTn
      obtain ⟨k, v, xs, st, rfl, hxs, hA, hG, hR, hF, hkN, hCr, hTr⟩ := hrel
      have hbad := rf_cell hR
      have hk8 := hF.1
      by_cases hlt : (k : Int) < N
      · cases st with
        | some r =>
          have hbad : wr.cell? ⟨S, 2, none⟩ = some (.bool false) := hbad
          obtain ⟨q, hq⟩ : ∃ q, N.toNat - k = q + 1 := ⟨N.toNat - k - 1, by omega⟩
          have HQQ := Lib.hid (show N.toNat - (k + 1) = q by omega)
          rw [hq] at hTr
          have HTN := Lib.hid (hTr.out.trans pre_some)
          have HXS := Lib.hid hxs
          have HFN := Lib.hid (hF.next (q := qFace) (le_of face getw.face_le))
          have HGR := Lib.hid hG
          have HWR := Lib.hid hCr.size
          clear hq hTr hxs hF hG
          obtain ⟨gx, gt, hqg⟩ : ∃ y z, qFace (some r) = (y, z) := ⟨_, _, rfl⟩
          have HCg := Lib.hid (face_any hR hs)
          rw [hqg] at HCg
          have HQg := Lib.hid hqg
          clear hqg
          go_wp2_with fail
          refine HCg.out.mono ?_
          rintro e gw ⟨hCg, hRg, v, rfl, hv⟩
          have hRg : RfAt w gw S L gt := hRg
          clear HCg
          have hf : FaceAt _ gx _ := hv
          have hf2 := hf
          obtain ⟨ga, gm, gc, gd, rfl, -⟩ := hf2
          clear hv
          obtain ⟨Q, hQe⟩ : ∃ Q, gw.heap.size = Q := ⟨_, rfl⟩
          have hV : Blk (gw.alloc (.cells #[.string gx.modn, .slice ga gx.vars.length gm, .slice gc gx.procs.length gd] 25)) Q #[.string gx.modn, .slice ga gx.vars.length gm, .slice gc gx.procs.length gd] 25 := by
            rw [← hQe]; exact Blk.made gw _ _
          have hGg : Chg (fun i => i = S) wr (gw.alloc (.cells #[.string gx.modn, .slice ga gx.vars.length gm, .slice gc gx.procs.length gd] 25)) := hCg.alloc _
          have hRg2 := hRg.alloc (.cells #[.string gx.modn, .slice ga gx.vars.length gm, .slice gc gx.procs.length gd] 25)
          have hf9 := FaceAt.keeps (keeps_chg (M := below wr.heap.size) ((Chg.refl (fun _ => False) gw).alloc (.cells #[.string gx.modn, .slice ga gx.vars.length gm, .slice gc gx.procs.length gd] 25)) (fun _ _ h => h.elim)) hf
          clear hf hRg hCg
          go_upto_region 9 with (fail)
          generalize gw.alloc (.cells #[.string gx.modn, .slice ga gx.vars.length gm, .slice gc gx.procs.length gd] 25) = u9 at *
          have hG9 := HGR.out.chg getv.face_keeps hGg (fun i hi => by omega)
          obtain ⟨us, hu1, hu2, hu3⟩ := hG9.ex
          rw [HXS.out] at hu2
          have HU := Lib.hid (And.intro hu1 hu3)
          have HGB := Lib.hid (getw.grow_base HGR.out)
          have HV2 := Lib.hid (getv.face_keeps _ _ _ _ (getw.new_apart (w := u9) (getw.grow_base HGR.out) HWR.out) (show VFace gx (.agg #[.string gx.modn, .slice ga gx.vars.length gm, .slice gc gx.procs.length gd]) _ from hf9))
          have hs9 : wn.heap.size ≤ u9.heap.size := Nat.le_trans HWR.out hGg.size
          obtain ⟨i0_, hi, hz0, hz1, hz2⟩ := info_parts getw.info_face
          clear hG9 hu1 hu3
          have hAu := hA.chg hGg (by omega)
          have hAuc := hAu.cell
          have hAul := hAu.lt
          have hNA := own_apart (getw.grow_base HGR.out) (show A < wn.heap.size by omega)
          have hQc := hV.cell
          have hQl := hV.lt
          go_wp2_with (at_builtin; refine wpList_append_lies _ rfl _ _ 26 rfl wn.heap.size 25 i0_ (.agg #[.string ⟨#[]⟩, .slice none 0 0, .slice none 0 0]) 3 64 Tryz.underlying26 hi hz0 hz1 hz2 rfl (by decide) _ _ _ rfl (hu2.alloc _) ⟨u9.heap.size, 0, none⟩ 1 1 [.string gx.modn, .slice ga gx.vars.length gm, .slice gc gx.procs.length gd] rfl rfl (getw.news_at rfl rfl) (by intro u hu; simp at hu; rcases hu with rfl | rfl | rfl <;> rfl) (by decide) (by unfold maxLen; omega) (by omega) (by simp; omega) (u9.heap.size + 1) (by simp) ?_; intro g cap' w9 hown hgrow hat hlt1; have hA9 : Blk w9 A #[.string x1.modn, .slice fa x1.vars.length fm, .slice fc x1.procs.length fd, v, .slice none 0 0, .slice none 0 0, .slice none 0 0, .slice none 0 0, .slice none 0 0, .int .i64 0, .int .i64 0, .int .i64 0, .int .i64 0] 31 := (hgrow.block A (by simp; omega) (by first | exact hNA | exact fun e => hNA e.symm)).trans (hAu.alloc _); have hA9c := hA9.cell; have hA9f := hA9.frozen; have hA9l := hA9.lt)
          obtain ⟨hN1, hN2, hN3⟩ := grow_next hGg HU.out.1 HU.out.2 HXS.out hown hgrow hat HV2.out rfl rfl getv.face_keeps
          have HIT := Lib.hid (show qFace (some r) = (gx, gt) by simp only [HQg.out])
          have HTN2 := Lib.hid (show Tn = qPre (xs ++ [gx]) (qLoop qFace q gt) by rw [HTN.out, HIT.out])
          have HFN2 := Lib.hid (show Fits L (k + 1) gt by have := HFN.out; rw [HIT.out] at this; exact this)
          have hRn := (hRg2.chg hN3 (fun e => by have := (HGB.out S e).1; omega) (fun i e => by have := (HGB.out i e).1; have := HWl.out; have := HCW.out; omega)).setFar (p := ⟨A, 3, none⟩) (by show A ≠ S; omega) (by have := HWl.out; have := HCW.out; show _ ≤ A; omega) (.slice (some ⟨g, 0, none⟩) (k + 1) cap')
          have hCn : Chg (fun i => i = S ∨ i = A) wn (w9.setCell ⟨A, 3, none⟩ (.slice (some ⟨g, 0, none⟩) (k + 1) cap')) := (hCr.trans hN2 (fun i hi e => e.elim (fun e => .inl e) (fun e => by have := (HGB.out i e).1; omega))).setCell (p := ⟨A, 3, none⟩) (fun _ => .inr rfl) _
          have hGn := hN1.chg getv.face_keeps ((Chg.refl (fun i => i = A) w9).setCell (p := ⟨A, 3, none⟩) (fun _ => rfl) (.slice (some ⟨g, 0, none⟩) (k + 1) cap')) (fun i hi => by omega)
          have hAn : Blk (w9.setCell ⟨A, 3, none⟩ (.slice (some ⟨g, 0, none⟩) (k + 1) cap')) A #[.string x1.modn, .slice fa x1.vars.length fm, .slice fc x1.procs.length fd, .slice (some ⟨g, 0, none⟩) (k + 1) cap', .slice none 0 0, .slice none 0 0, .slice none 0 0, .slice none 0 0, .slice none 0 0, .int .i64 0, .int .i64 0, .int .i64 0, .int .i64 0] 31 := hA9.set 3 _
          go_roundw
          case rel => exact ⟨k + 1, _, xs ++ [gx], gt, by go_num, by simp [HXS.out], hAn, hGn, hRn, HFN2.out, by omega, hCn, by rw [HQQ.out]; exact HTN2.out⟩
          case measure => simp [intOf]; omega
        | none =>
          have hbad : wr.cell? ⟨S, 2, none⟩ = some (.bool true) := hbad
          have hend := Lib.hid (hTr.out.trans (pre_end (.inr rfl)))
          clear hTr
          go_wp2_with fail
          go_meet
          exact ⟨v, xs, none, hA, hG, hR, hCr, hend⟩
      · have hend := Lib.hid (hTr.out.trans (pre_end (.inl (by omega))))
        clear hTr
        go_wp2_with fail
        go_meet
        exact ⟨v, xs, st, hA, hG, hR, hCr, hend⟩
  case rest =>
    generalize wc = vn at *
    obtain ⟨va, x2, s2, hAn2, hGn, hRn2, hCn2, hTen⟩ := hcut
    have hXn2 : Ext w vn := hXn.trans hCn2 (fun i hi e => by omega)
    have hDn2 := hDn.chg hCn2 (by omega)
    have hOq := hOn.chg hCn2 (fun i hi => by omega)
    have hrow := (hGn.row getv.face_keeps getv.face_lies).keeps (fun _ _ _ => FaceIn.keeps (keeps_low (show A + 1 ≤ wn.heap.size by omega))) (keeps_low (show A + 1 ≤ wn.heap.size by omega))
    obtain ⟨a2, c2, rfl, -, -, hrow⟩ := hrow
    have hOn2 : getw.ObjD (hide (below (A + 1)) vn) x1 fa fm fc fd x2 a2 [] none [] none [] none [] none [] none := ⟨hOq.1, hrow, hOq.2.2⟩
    clear hGn hCn2 hXn hDn hAn hOn hRn hOq hrow
    obtain ⟨M, m1, hqm⟩ : ∃ y z, qNum s2 = (y, z) := ⟨_, _, rfl⟩
    have HCm := Lib.hid (number_any hRn2)
    rw [hqm] at HCm
    have HQm := Lib.hid hqm
    clear hqm
    go_wp2_with fail
    refine HCm.out.mono ?_
    rintro e wm ⟨hCm, hRm, v, rfl, rfl⟩
    have hRm : RfAt w wm S L m1 := hRm
    clear HCm
    have hXm := getw.ext_rd hXn2 (by omega) hCm
    have hDm := hDn2.chg hCm (by omega)
    have hAm := hAn2.chg hCm (by omega)
    have hOm := hOn2.chg hCm (fun i hi => by omega)
    clear hXn2 hDn2 hAn2 hOn2 hCm
    obtain ⟨Tm, hTm⟩ : ∃ T, qLoop qIns M.toNat m1 = T := ⟨_, rfl⟩
    have HTm := Lib.hid hTm
    have hAml := hAm.lt
    clear hTm
    go_upto_block 2 with (fail)
    go_cut [] (fun w' => ∃ (v : Value) (xs : List Ins) (st : St), Blk w' A #[.string x1.modn, .slice fa x1.vars.length fm, .slice fc x1.procs.length fd, .slice a2 x2.length c2, v, .slice none 0 0, .slice none 0 0, .slice none 0 0, .slice none 0 0, .int .i64 0, .int .i64 0, .int .i64 0, .int .i64 0] 31 ∧ Grow 5 73 VIns wm.heap.size w' v xs ∧ RfAt w w' S L st ∧ Chg (fun i => i = S ∨ i = A) wm w' ∧ Hid (Tm = (xs, st)))
    case first =>
      go_wp2_with fail
      go_loopw [10] (fun si wr => ∃ (k : Nat) (v : Value) (xs : List Ins) (st : St), si = .int .i64 k ∧ xs.length = k ∧ Blk wr A #[.string x1.modn, .slice fa x1.vars.length fm, .slice fc x1.procs.length fd, .slice a2 x2.length c2, v, .slice none 0 0, .slice none 0 0, .slice none 0 0, .slice none 0 0, .int .i64 0, .int .i64 0, .int .i64 0, .int .i64 0] 31 ∧ Grow 5 73 VIns wm.heap.size wr v xs ∧ RfAt w wr S L st ∧ Fits L k st ∧ (k : Int) ≤ max M 0 ∧ Chg (fun i => i = S ∨ i = A) wm wr ∧ Hid (Tm = qPre xs (qLoop qIns (M.toNat - k) st))) (fun si _ => M.toNat - (intOf si).toNat)
      case atStart => exact ⟨0, _, [], m1, rfl, rfl, hAm, Grow.nil _ _ _ _ _, hRm, Fits.start (rf_len hRm), by omega, Chg.refl _ _, HTm.out.symm⟩
      case round =>
        have HCW := Lib.hid (show w.heap.size ≤ wm.heap.size from hXm.size)
        clear hXm hDm hAm hOm hRm HTm
        obtain ⟨k, v, xs, st, rfl, hxs, hA, hG, hR, hF, hkN, hCr, hTr⟩ := hrel
        have hbad := rf_cell hR
        have hk8 := hF.1
        by_cases hlt : (k : Int) < M
        · cases st with
          | some r =>
            have hbad : wr.cell? ⟨S, 2, none⟩ = some (.bool false) := hbad
            obtain ⟨q, hq⟩ : ∃ q, M.toNat - k = q + 1 := ⟨M.toNat - k - 1, by omega⟩
            have HQQ := Lib.hid (show M.toNat - (k + 1) = q by omega)
            rw [hq] at hTr
            have HTN := Lib.hid (hTr.out.trans pre_some)
            have HXS := Lib.hid hxs
            have HFN := Lib.hid (hF.next (q := qIns) (le_of ins getw.ins_le))
            have HGR := Lib.hid hG
            have HWR := Lib.hid hCr.size
            clear hq hTr hxs hF hG
            have hV0 := Blk.made wr #[.int .i64 0, .int .i64 0, .int .i64 0, .int .i64 0, .int .i64 0] 73
            have hR0 := hR.alloc (.cells #[.int .i64 0, .int .i64 0, .int .i64 0, .int .i64 0, .int .i64 0] 73)
            have hG0 : Chg (fun i => i = S) wr (wr.alloc (.cells #[.int .i64 0, .int .i64 0, .int .i64 0, .int .i64 0, .int .i64 0] 73)) := (Chg.refl _ _).alloc _
            obtain ⟨Q, hQe⟩ : ∃ Q, wr.heap.size = Q := ⟨_, rfl⟩
            rw [hQe] at hV0
            have hSQ : S < Q := by have := hR.lt; omega
            obtain ⟨px0, pt0, hqp0⟩ : ∃ y z, qNum (some r) = (y, z) := ⟨_, _, rfl⟩
            have HCp0 := Lib.hid (number_any hR0)
            rw [hqp0] at HCp0
            have HQp0 := Lib.hid hqp0
            clear hqp0
            go_wp2_with fail
            refine HCp0.out.mono ?_
            rintro e pw0 ⟨hCp0, hRp0, v, rfl, rfl⟩
            have hRp0 : RfAt w pw0 S L pt0 := hRp0
            clear HCp0
            have hVp0 := hV0.chg hCp0 (by omega)
            have hGp0 := hG0.then hCp0
            have hVc := hVp0.cell
            have hVf := hVp0.frozen
            have hVl := hVp0.lt
            clear hV0 hG0 hR0 hCp0
            have hVp0s : Blk (pw0.setCell ⟨Q, 0, none⟩ (.int .i64 px0)) Q #[.int .i64 px0, .int .i64 0, .int .i64 0, .int .i64 0, .int .i64 0] 73 := hVp0.set 0 _
            have hGp0s : Chg (fun i => i = S) wr (pw0.setCell ⟨Q, 0, none⟩ (.int .i64 px0)) := hGp0.setNew (p := ⟨Q, 0, none⟩) (by show _ ≤ Q; omega) _
            have hRp0s : RfAt w (pw0.setCell ⟨Q, 0, none⟩ (.int .i64 px0)) S L pt0 := hRp0.setFar (p := ⟨Q, 0, none⟩) (by show Q ≠ S; omega) (by have := HWl.out; have := HWR.out; have := HCW.out; show _ ≤ Q; omega) _
            obtain ⟨px1, pt1, hqp1⟩ : ∃ y z, qNum pt0 = (y, z) := ⟨_, _, rfl⟩
            have HCp1 := Lib.hid (number_any hRp0s)
            rw [hqp1] at HCp1
            have HQp1 := Lib.hid hqp1
            clear hqp1
            go_wp2_with fail
            refine HCp1.out.mono ?_
            rintro e pw1 ⟨hCp1, hRp1, v, rfl, rfl⟩
            have hRp1 : RfAt w pw1 S L pt1 := hRp1
            clear HCp1
            have hVp1 := hVp0s.chg hCp1 (by omega)
            have hGp1 := hGp0s.then hCp1
            have hVc := hVp1.cell
            have hVf := hVp1.frozen
            have hVl := hVp1.lt
            clear hVp0s hGp0s hRp0s hCp1
            have hVp1s : Blk (pw1.setCell ⟨Q, 1, none⟩ (.int .i64 px1)) Q #[.int .i64 px0, .int .i64 px1, .int .i64 0, .int .i64 0, .int .i64 0] 73 := hVp1.set 1 _
            have hGp1s : Chg (fun i => i = S) wr (pw1.setCell ⟨Q, 1, none⟩ (.int .i64 px1)) := hGp1.setNew (p := ⟨Q, 1, none⟩) (by show _ ≤ Q; omega) _
            have hRp1s : RfAt w (pw1.setCell ⟨Q, 1, none⟩ (.int .i64 px1)) S L pt1 := hRp1.setFar (p := ⟨Q, 1, none⟩) (by show Q ≠ S; omega) (by have := HWl.out; have := HWR.out; have := HCW.out; show _ ≤ Q; omega) _
            obtain ⟨px2, pt2, hqp2⟩ : ∃ y z, qNum pt1 = (y, z) := ⟨_, _, rfl⟩
            have HCp2 := Lib.hid (number_any hRp1s)
            rw [hqp2] at HCp2
            have HQp2 := Lib.hid hqp2
            clear hqp2
            go_wp2_with fail
            refine HCp2.out.mono ?_
            rintro e pw2 ⟨hCp2, hRp2, v, rfl, rfl⟩
            have hRp2 : RfAt w pw2 S L pt2 := hRp2
            clear HCp2
            have hVp2 := hVp1s.chg hCp2 (by omega)
            have hGp2 := hGp1s.then hCp2
            have hVc := hVp2.cell
            have hVf := hVp2.frozen
            have hVl := hVp2.lt
            clear hVp1s hGp1s hRp1s hCp2
            have hVp2s : Blk (pw2.setCell ⟨Q, 2, none⟩ (.int .i64 px2)) Q #[.int .i64 px0, .int .i64 px1, .int .i64 px2, .int .i64 0, .int .i64 0] 73 := hVp2.set 2 _
            have hGp2s : Chg (fun i => i = S) wr (pw2.setCell ⟨Q, 2, none⟩ (.int .i64 px2)) := hGp2.setNew (p := ⟨Q, 2, none⟩) (by show _ ≤ Q; omega) _
            have hRp2s : RfAt w (pw2.setCell ⟨Q, 2, none⟩ (.int .i64 px2)) S L pt2 := hRp2.setFar (p := ⟨Q, 2, none⟩) (by show Q ≠ S; omega) (by have := HWl.out; have := HWR.out; have := HCW.out; show _ ≤ Q; omega) _
            obtain ⟨px3, pt3, hqp3⟩ : ∃ y z, qNum pt2 = (y, z) := ⟨_, _, rfl⟩
            have HCp3 := Lib.hid (number_any hRp2s)
            rw [hqp3] at HCp3
            have HQp3 := Lib.hid hqp3
            clear hqp3
            go_wp2_with fail
            refine HCp3.out.mono ?_
            rintro e pw3 ⟨hCp3, hRp3, v, rfl, rfl⟩
            have hRp3 : RfAt w pw3 S L pt3 := hRp3
            clear HCp3
            have hVp3 := hVp2s.chg hCp3 (by omega)
            have hGp3 := hGp2s.then hCp3
            have hVc := hVp3.cell
            have hVf := hVp3.frozen
            have hVl := hVp3.lt
            clear hVp2s hGp2s hRp2s hCp3
            have hVp3s : Blk (pw3.setCell ⟨Q, 3, none⟩ (.int .i64 px3)) Q #[.int .i64 px0, .int .i64 px1, .int .i64 px2, .int .i64 px3, .int .i64 0] 73 := hVp3.set 3 _
            have hGp3s : Chg (fun i => i = S) wr (pw3.setCell ⟨Q, 3, none⟩ (.int .i64 px3)) := hGp3.setNew (p := ⟨Q, 3, none⟩) (by show _ ≤ Q; omega) _
            have hRp3s : RfAt w (pw3.setCell ⟨Q, 3, none⟩ (.int .i64 px3)) S L pt3 := hRp3.setFar (p := ⟨Q, 3, none⟩) (by show Q ≠ S; omega) (by have := HWl.out; have := HWR.out; have := HCW.out; show _ ≤ Q; omega) _
            obtain ⟨px4, pt4, hqp4⟩ : ∃ y z, qNum pt3 = (y, z) := ⟨_, _, rfl⟩
            have HCp4 := Lib.hid (wide_any hRp3s)
            rw [hqp4] at HCp4
            have HQp4 := Lib.hid hqp4
            clear hqp4
            go_wp2_with fail
            refine HCp4.out.mono ?_
            rintro e pw4 ⟨hCp4, hRp4, v, rfl, rfl⟩
            have hRp4 : RfAt w pw4 S L pt4 := hRp4
            clear HCp4
            have hVp4 := hVp3s.chg hCp4 (by omega)
            have hGp4 := hGp3s.then hCp4
            have hVc := hVp4.cell
            have hVf := hVp4.frozen
            have hVl := hVp4.lt
            clear hVp3s hGp3s hRp3s hCp4
            have hVp4s : Blk (pw4.setCell ⟨Q, 4, none⟩ (.int .i64 px4)) Q #[.int .i64 px0, .int .i64 px1, .int .i64 px2, .int .i64 px3, .int .i64 px4] 73 := hVp4.set 4 _
            have hGp4s : Chg (fun i => i = S) wr (pw4.setCell ⟨Q, 4, none⟩ (.int .i64 px4)) := hGp4.setNew (p := ⟨Q, 4, none⟩) (by show _ ≤ Q; omega) _
            have hRp4s : RfAt w (pw4.setCell ⟨Q, 4, none⟩ (.int .i64 px4)) S L pt4 := hRp4.setFar (p := ⟨Q, 4, none⟩) (by show Q ≠ S; omega) (by have := HWl.out; have := HWR.out; have := HCW.out; show _ ≤ Q; omega) _
            go_upto_region 20 with (fail)
            generalize pw4.setCell ⟨Q, 4, none⟩ (.int .i64 px4) = u9 at *
            have hG9 := HGR.out.chg getv.ins_keeps hGp4s (fun i hi => by omega)
            obtain ⟨us, hu1, hu2, hu3⟩ := hG9.ex
            rw [HXS.out] at hu2
            have HU := Lib.hid (And.intro hu1 hu3)
            have HGB := Lib.hid (getw.grow_base HGR.out)
            have HV2 := Lib.hid (getv.ins_keeps _ _ _ _ (getw.new_apart (w := u9) (getw.grow_base HGR.out) HWR.out) (show VIns ⟨px0, px1, px2, px3, px4⟩ (.agg #[.int .i64 px0, .int .i64 px1, .int .i64 px2, .int .i64 px3, .int .i64 px4]) _ from rfl))
            have hs9 : wm.heap.size ≤ u9.heap.size := Nat.le_trans HWR.out hGp4s.size
            obtain ⟨i0_, hi, hz0, hz1, hz2⟩ := info_parts getw.info_ins
            clear hG9 hu1 hu3
            have hAu := hA.chg hGp4s (by omega)
            have hAuc := hAu.cell
            have hAul := hAu.lt
            have hNA := own_apart (getw.grow_base HGR.out) (show A < wm.heap.size by omega)
            have hQc := hVp4s.cell
            have hQl := hVp4s.lt
            go_wp2_with (at_builtin; refine wpList_append_lies _ rfl _ _ 27 rfl wm.heap.size 73 i0_ (.agg #[.int .i64 0, .int .i64 0, .int .i64 0, .int .i64 0, .int .i64 0]) 5 40 Tryz.underlying27 hi hz0 hz1 hz2 rfl (by decide) _ _ _ rfl (hu2.alloc _) ⟨u9.heap.size, 0, none⟩ 1 1 [.int .i64 px0, .int .i64 px1, .int .i64 px2, .int .i64 px3, .int .i64 px4] rfl rfl (getw.news_at rfl rfl) (by intro u hu; simp at hu; rcases hu with rfl | rfl | rfl | rfl | rfl <;> rfl) (by decide) (by unfold maxLen; omega) (by omega) (by simp; omega) (u9.heap.size + 1) (by simp) ?_; intro g cap' w9 hown hgrow hat hlt1; have hA9 : Blk w9 A #[.string x1.modn, .slice fa x1.vars.length fm, .slice fc x1.procs.length fd, .slice a2 x2.length c2, v, .slice none 0 0, .slice none 0 0, .slice none 0 0, .slice none 0 0, .int .i64 0, .int .i64 0, .int .i64 0, .int .i64 0] 31 := (hgrow.block A (by simp; omega) (by first | exact hNA | exact fun e => hNA e.symm)).trans (hAu.alloc _); have hA9c := hA9.cell; have hA9f := hA9.frozen; have hA9l := hA9.lt)
            obtain ⟨hN1, hN2, hN3⟩ := grow_next hGp4s HU.out.1 HU.out.2 HXS.out hown hgrow hat HV2.out rfl rfl getv.ins_keeps
            have HIT := Lib.hid (show qIns (some r) = (⟨px0, px1, px2, px3, px4⟩, pt4) by simp only [qIns, qMap, HQp0.out, HQp1.out, HQp2.out, HQp3.out, HQp4.out])
            have HTN2 := Lib.hid (show Tm = qPre (xs ++ [⟨px0, px1, px2, px3, px4⟩]) (qLoop qIns q pt4) by rw [HTN.out, HIT.out])
            have HFN2 := Lib.hid (show Fits L (k + 1) pt4 by have := HFN.out; rw [HIT.out] at this; exact this)
            have hRn := (hRp4s.chg hN3 (fun e => by have := (HGB.out S e).1; omega) (fun i e => by have := (HGB.out i e).1; have := HWl.out; have := HCW.out; omega)).setFar (p := ⟨A, 4, none⟩) (by show A ≠ S; omega) (by have := HWl.out; have := HCW.out; show _ ≤ A; omega) (.slice (some ⟨g, 0, none⟩) (k + 1) cap')
            have hCn : Chg (fun i => i = S ∨ i = A) wm (w9.setCell ⟨A, 4, none⟩ (.slice (some ⟨g, 0, none⟩) (k + 1) cap')) := (hCr.trans hN2 (fun i hi e => e.elim (fun e => .inl e) (fun e => by have := (HGB.out i e).1; omega))).setCell (p := ⟨A, 4, none⟩) (fun _ => .inr rfl) _
            have hGn := hN1.chg getv.ins_keeps ((Chg.refl (fun i => i = A) w9).setCell (p := ⟨A, 4, none⟩) (fun _ => rfl) (.slice (some ⟨g, 0, none⟩) (k + 1) cap')) (fun i hi => by omega)
            have hAn : Blk (w9.setCell ⟨A, 4, none⟩ (.slice (some ⟨g, 0, none⟩) (k + 1) cap')) A #[.string x1.modn, .slice fa x1.vars.length fm, .slice fc x1.procs.length fd, .slice a2 x2.length c2, .slice (some ⟨g, 0, none⟩) (k + 1) cap', .slice none 0 0, .slice none 0 0, .slice none 0 0, .slice none 0 0, .int .i64 0, .int .i64 0, .int .i64 0, .int .i64 0] 31 := hA9.set 4 _
            go_roundw
            case rel => exact ⟨k + 1, _, xs ++ [⟨px0, px1, px2, px3, px4⟩], pt4, by go_num, by simp [HXS.out], hAn, hGn, hRn, HFN2.out, by omega, hCn, by rw [HQQ.out]; exact HTN2.out⟩
            case measure => simp [intOf]; omega
          | none =>
            have hbad : wr.cell? ⟨S, 2, none⟩ = some (.bool true) := hbad
            have hend := Lib.hid (hTr.out.trans (pre_end (.inr rfl)))
            clear hTr
            go_wp2_with fail
            go_meet
            exact ⟨v, xs, none, hA, hG, hR, hCr, hend⟩
        · have hend := Lib.hid (hTr.out.trans (pre_end (.inl (by omega))))
          clear hTr
          go_wp2_with fail
          go_meet
          exact ⟨v, xs, st, hA, hG, hR, hCr, hend⟩
    case rest =>
      generalize wc = vm at *
      obtain ⟨va, x3, s3, hAm2, hGm, hRm2, hCm2, hTem⟩ := hcut
      have hXm2 : Ext w vm := hXm.trans hCm2 (fun i hi e => by omega)
      have hDm2 := hDm.chg hCm2 (by omega)
      have hOq := hOm.chg hCm2 (fun i hi => by omega)
      have hrow := (hGm.row getv.ins_keeps getv.ins_lies).keeps (fun _ _ _ => InsIn5.keeps (keeps_low (show A + 1 ≤ wm.heap.size by omega))) (keeps_low (show A + 1 ≤ wm.heap.size by omega))
      obtain ⟨a3, c3, rfl, -, -, hrow⟩ := hrow
      have hOm2 : getw.ObjD (hide (below (A + 1)) vm) x1 fa fm fc fd x2 a2 x3 a3 [] none [] none [] none [] none := ⟨hOq.1, hOq.2.1, hrow, hOq.2.2.2⟩
      clear hGm hCm2 hXm hDm hAm hOm hRm hOq hrow
      obtain ⟨K, k1, hqk⟩ : ∃ y z, qNum s3 = (y, z) := ⟨_, _, rfl⟩
      have HCk := Lib.hid (number_any hRm2)
      rw [hqk] at HCk
      have HQk := Lib.hid hqk
      clear hqk
      go_wp2_with fail
      refine HCk.out.mono ?_
      rintro e wk ⟨hCk, hRk, v, rfl, rfl⟩
      have hRk : RfAt w wk S L k1 := hRk
      clear HCk
      have hXk := getw.ext_rd hXm2 (by omega) hCk
      have hDk := hDm2.chg hCk (by omega)
      have hAk := hAm2.chg hCk (by omega)
      have hOk := hOm2.chg hCk (fun i hi => by omega)
      clear hXm2 hDm2 hAm2 hOm2 hCk
      obtain ⟨Tk, hTk⟩ : ∃ T, qLoop qRel K.toNat k1 = T := ⟨_, rfl⟩
      have HTk := Lib.hid hTk
      have hAkl := hAk.lt
      clear hTk
      go_upto_block 4 with (fail)
      go_cut [] (fun w' => ∃ (v : Value) (xs : List FRel) (st : St), Blk w' A #[.string x1.modn, .slice fa x1.vars.length fm, .slice fc x1.procs.length fd, .slice a2 x2.length c2, .slice a3 x3.length c3, v, .slice none 0 0, .slice none 0 0, .slice none 0 0, .int .i64 0, .int .i64 0, .int .i64 0, .int .i64 0] 31 ∧ Grow 4 79 VRel wk.heap.size w' v xs ∧ RfAt w w' S L st ∧ Chg (fun i => i = S ∨ i = A) wk w' ∧ Hid (Tk = (xs, st)))
      case first =>
        go_wp2_with fail
        go_loopw [13] (fun si wr => ∃ (k : Nat) (v : Value) (xs : List FRel) (st : St), si = .int .i64 k ∧ xs.length = k ∧ Blk wr A #[.string x1.modn, .slice fa x1.vars.length fm, .slice fc x1.procs.length fd, .slice a2 x2.length c2, .slice a3 x3.length c3, v, .slice none 0 0, .slice none 0 0, .slice none 0 0, .int .i64 0, .int .i64 0, .int .i64 0, .int .i64 0] 31 ∧ Grow 4 79 VRel wk.heap.size wr v xs ∧ RfAt w wr S L st ∧ Fits L k st ∧ (k : Int) ≤ max K 0 ∧ Chg (fun i => i = S ∨ i = A) wk wr ∧ Hid (Tk = qPre xs (qLoop qRel (K.toNat - k) st))) (fun si _ => K.toNat - (intOf si).toNat)
        case atStart => exact ⟨0, _, [], k1, rfl, rfl, hAk, Grow.nil _ _ _ _ _, hRk, Fits.start (rf_len hRk), by omega, Chg.refl _ _, HTk.out.symm⟩
        case round =>
          have HCW := Lib.hid (show w.heap.size ≤ wk.heap.size from hXk.size)
          clear hXk hDk hAk hOk hRk HTk
          obtain ⟨k, v, xs, st, rfl, hxs, hA, hG, hR, hF, hkN, hCr, hTr⟩ := hrel
          have hbad := rf_cell hR
          have hk8 := hF.1
          by_cases hlt : (k : Int) < K
          · cases st with
            | some r =>
              have hbad : wr.cell? ⟨S, 2, none⟩ = some (.bool false) := hbad
              obtain ⟨q, hq⟩ : ∃ q, K.toNat - k = q + 1 := ⟨K.toNat - k - 1, by omega⟩
              have HQQ := Lib.hid (show K.toNat - (k + 1) = q by omega)
              rw [hq] at hTr
              have HTN := Lib.hid (hTr.out.trans pre_some)
              have HXS := Lib.hid hxs
              have HFN := Lib.hid (hF.next (q := qRel) (le_of rel getw.rel_le))
              have HGR := Lib.hid hG
              have HWR := Lib.hid hCr.size
              clear hq hTr hxs hF hG
              have hV0 := Blk.made wr #[.int .i64 0, .int .i64 0, .string ⟨#[]⟩, .string ⟨#[]⟩] 79
              have hR0 := hR.alloc (.cells #[.int .i64 0, .int .i64 0, .string ⟨#[]⟩, .string ⟨#[]⟩] 79)
              have hG0 : Chg (fun i => i = S) wr (wr.alloc (.cells #[.int .i64 0, .int .i64 0, .string ⟨#[]⟩, .string ⟨#[]⟩] 79)) := (Chg.refl _ _).alloc _
              obtain ⟨Q, hQe⟩ : ∃ Q, wr.heap.size = Q := ⟨_, rfl⟩
              rw [hQe] at hV0
              have hSQ : S < Q := by have := hR.lt; omega
              obtain ⟨px0, pt0, hqp0⟩ : ∃ y z, qNum (some r) = (y, z) := ⟨_, _, rfl⟩
              have HCp0 := Lib.hid (number_any hR0)
              rw [hqp0] at HCp0
              have HQp0 := Lib.hid hqp0
              clear hqp0
              go_wp2_with fail
              refine HCp0.out.mono ?_
              rintro e pw0 ⟨hCp0, hRp0, v, rfl, rfl⟩
              have hRp0 : RfAt w pw0 S L pt0 := hRp0
              clear HCp0
              have hVp0 := hV0.chg hCp0 (by omega)
              have hGp0 := hG0.then hCp0
              have hVc := hVp0.cell
              have hVf := hVp0.frozen
              have hVl := hVp0.lt
              clear hV0 hG0 hR0 hCp0
              have hVp0s : Blk (pw0.setCell ⟨Q, 0, none⟩ (.int .i64 px0)) Q #[.int .i64 px0, .int .i64 0, .string ⟨#[]⟩, .string ⟨#[]⟩] 79 := hVp0.set 0 _
              have hGp0s : Chg (fun i => i = S) wr (pw0.setCell ⟨Q, 0, none⟩ (.int .i64 px0)) := hGp0.setNew (p := ⟨Q, 0, none⟩) (by show _ ≤ Q; omega) _
              have hRp0s : RfAt w (pw0.setCell ⟨Q, 0, none⟩ (.int .i64 px0)) S L pt0 := hRp0.setFar (p := ⟨Q, 0, none⟩) (by show Q ≠ S; omega) (by have := HWl.out; have := HWR.out; have := HCW.out; show _ ≤ Q; omega) _
              obtain ⟨px1, pt1, hqp1⟩ : ∃ y z, qNum pt0 = (y, z) := ⟨_, _, rfl⟩
              have HCp1 := Lib.hid (number_any hRp0s)
              rw [hqp1] at HCp1
              have HQp1 := Lib.hid hqp1
              clear hqp1
              go_wp2_with fail
              refine HCp1.out.mono ?_
              rintro e pw1 ⟨hCp1, hRp1, v, rfl, rfl⟩
              have hRp1 : RfAt w pw1 S L pt1 := hRp1
              clear HCp1
              have hVp1 := hVp0s.chg hCp1 (by omega)
              have hGp1 := hGp0s.then hCp1
              have hVc := hVp1.cell
              have hVf := hVp1.frozen
              have hVl := hVp1.lt
              clear hVp0s hGp0s hRp0s hCp1
              have hVp1s : Blk (pw1.setCell ⟨Q, 1, none⟩ (.int .i64 px1)) Q #[.int .i64 px0, .int .i64 px1, .string ⟨#[]⟩, .string ⟨#[]⟩] 79 := hVp1.set 1 _
              have hGp1s : Chg (fun i => i = S) wr (pw1.setCell ⟨Q, 1, none⟩ (.int .i64 px1)) := hGp1.setNew (p := ⟨Q, 1, none⟩) (by show _ ≤ Q; omega) _
              have hRp1s : RfAt w (pw1.setCell ⟨Q, 1, none⟩ (.int .i64 px1)) S L pt1 := hRp1.setFar (p := ⟨Q, 1, none⟩) (by show Q ≠ S; omega) (by have := HWl.out; have := HWR.out; have := HCW.out; show _ ≤ Q; omega) _
              obtain ⟨px2, pt2, hqp2⟩ : ∃ y z, qText pt1 = (y, z) := ⟨_, _, rfl⟩
              have HCp2 := Lib.hid (text_any hRp1s hs)
              rw [hqp2] at HCp2
              have HQp2 := Lib.hid hqp2
              clear hqp2
              go_wp2_with fail
              refine HCp2.out.mono ?_
              rintro e pw2 ⟨hCp2, hRp2, v, rfl, ⟨rfl, hx⟩⟩
              have hRp2 : RfAt w pw2 S L pt2 := hRp2
              clear HCp2
              have hVp2 := hVp1s.chg hCp2 (by omega)
              have hGp2 := hGp1s.then hCp2
              have hVc := hVp2.cell
              have hVf := hVp2.frozen
              have hVl := hVp2.lt
              clear hVp1s hGp1s hRp1s hCp2
              have HXp2 := Lib.hid hx
              clear hx
              have hVp2s : Blk (pw2.setCell ⟨Q, 2, none⟩ (.string px2)) Q #[.int .i64 px0, .int .i64 px1, .string px2, .string ⟨#[]⟩] 79 := hVp2.set 2 _
              have hGp2s : Chg (fun i => i = S) wr (pw2.setCell ⟨Q, 2, none⟩ (.string px2)) := hGp2.setNew (p := ⟨Q, 2, none⟩) (by show _ ≤ Q; omega) _
              have hRp2s : RfAt w (pw2.setCell ⟨Q, 2, none⟩ (.string px2)) S L pt2 := hRp2.setFar (p := ⟨Q, 2, none⟩) (by show Q ≠ S; omega) (by have := HWl.out; have := HWR.out; have := HCW.out; show _ ≤ Q; omega) _
              obtain ⟨px3, pt3, hqp3⟩ : ∃ y z, qText pt2 = (y, z) := ⟨_, _, rfl⟩
              have HCp3 := Lib.hid (text_any hRp2s hs)
              rw [hqp3] at HCp3
              have HQp3 := Lib.hid hqp3
              clear hqp3
              go_wp2_with fail
              refine HCp3.out.mono ?_
              rintro e pw3 ⟨hCp3, hRp3, v, rfl, ⟨rfl, hx⟩⟩
              have hRp3 : RfAt w pw3 S L pt3 := hRp3
              clear HCp3
              have hVp3 := hVp2s.chg hCp3 (by omega)
              have hGp3 := hGp2s.then hCp3
              have hVc := hVp3.cell
              have hVf := hVp3.frozen
              have hVl := hVp3.lt
              clear hVp2s hGp2s hRp2s hCp3
              have HXp3 := Lib.hid hx
              clear hx
              have hVp3s : Blk (pw3.setCell ⟨Q, 3, none⟩ (.string px3)) Q #[.int .i64 px0, .int .i64 px1, .string px2, .string px3] 79 := hVp3.set 3 _
              have hGp3s : Chg (fun i => i = S) wr (pw3.setCell ⟨Q, 3, none⟩ (.string px3)) := hGp3.setNew (p := ⟨Q, 3, none⟩) (by show _ ≤ Q; omega) _
              have hRp3s : RfAt w (pw3.setCell ⟨Q, 3, none⟩ (.string px3)) S L pt3 := hRp3.setFar (p := ⟨Q, 3, none⟩) (by show Q ≠ S; omega) (by have := HWl.out; have := HWR.out; have := HCW.out; show _ ≤ Q; omega) _
              go_upto_region 30 with (fail)
              generalize pw3.setCell ⟨Q, 3, none⟩ (.string px3) = u9 at *
              have hG9 := HGR.out.chg getv.rel_keeps hGp3s (fun i hi => by omega)
              obtain ⟨us, hu1, hu2, hu3⟩ := hG9.ex
              rw [HXS.out] at hu2
              have HU := Lib.hid (And.intro hu1 hu3)
              have HGB := Lib.hid (getw.grow_base HGR.out)
              have HV2 := Lib.hid (getv.rel_keeps _ _ _ _ (getw.new_apart (w := u9) (getw.grow_base HGR.out) HWR.out) (show VRel ⟨px0, px1, px2, px3⟩ (.agg #[.int .i64 px0, .int .i64 px1, .string px2, .string px3]) _ from rfl))
              have hs9 : wk.heap.size ≤ u9.heap.size := Nat.le_trans HWR.out hGp3s.size
              obtain ⟨i0_, hi, hz0, hz1, hz2⟩ := info_parts getw.info_rel
              clear hG9 hu1 hu3
              have hAu := hA.chg hGp3s (by omega)
              have hAuc := hAu.cell
              have hAul := hAu.lt
              have hNA := own_apart (getw.grow_base HGR.out) (show A < wk.heap.size by omega)
              have hQc := hVp3s.cell
              have hQl := hVp3s.lt
              go_wp2_with (at_builtin; refine wpList_append_lies _ rfl _ _ 28 rfl wk.heap.size 79 i0_ (.agg #[.int .i64 0, .int .i64 0, .string ⟨#[]⟩, .string ⟨#[]⟩]) 4 48 Tryz.underlying28 hi hz0 hz1 hz2 rfl (by decide) _ _ _ rfl (hu2.alloc _) ⟨u9.heap.size, 0, none⟩ 1 1 [.int .i64 px0, .int .i64 px1, .string px2, .string px3] rfl rfl (getw.news_at rfl rfl) (by intro u hu; simp at hu; rcases hu with rfl | rfl | rfl | rfl <;> rfl) (by decide) (by unfold maxLen; omega) (by omega) (by simp; omega) (u9.heap.size + 1) (by simp) ?_; intro g cap' w9 hown hgrow hat hlt1; have hA9 : Blk w9 A #[.string x1.modn, .slice fa x1.vars.length fm, .slice fc x1.procs.length fd, .slice a2 x2.length c2, .slice a3 x3.length c3, v, .slice none 0 0, .slice none 0 0, .slice none 0 0, .int .i64 0, .int .i64 0, .int .i64 0, .int .i64 0] 31 := (hgrow.block A (by simp; omega) (by first | exact hNA | exact fun e => hNA e.symm)).trans (hAu.alloc _); have hA9c := hA9.cell; have hA9f := hA9.frozen; have hA9l := hA9.lt)
              obtain ⟨hN1, hN2, hN3⟩ := grow_next hGp3s HU.out.1 HU.out.2 HXS.out hown hgrow hat HV2.out rfl rfl getv.rel_keeps
              have HIT := Lib.hid (show qRel (some r) = (⟨px0, px1, px2, px3⟩, pt3) by simp only [qRel, qMap, HQp0.out, HQp1.out, HQp2.out, HQp3.out])
              have HTN2 := Lib.hid (show Tk = qPre (xs ++ [⟨px0, px1, px2, px3⟩]) (qLoop qRel q pt3) by rw [HTN.out, HIT.out])
              have HFN2 := Lib.hid (show Fits L (k + 1) pt3 by have := HFN.out; rw [HIT.out] at this; exact this)
              have hRn := (hRp3s.chg hN3 (fun e => by have := (HGB.out S e).1; omega) (fun i e => by have := (HGB.out i e).1; have := HWl.out; have := HCW.out; omega)).setFar (p := ⟨A, 5, none⟩) (by show A ≠ S; omega) (by have := HWl.out; have := HCW.out; show _ ≤ A; omega) (.slice (some ⟨g, 0, none⟩) (k + 1) cap')
              have hCn : Chg (fun i => i = S ∨ i = A) wk (w9.setCell ⟨A, 5, none⟩ (.slice (some ⟨g, 0, none⟩) (k + 1) cap')) := (hCr.trans hN2 (fun i hi e => e.elim (fun e => .inl e) (fun e => by have := (HGB.out i e).1; omega))).setCell (p := ⟨A, 5, none⟩) (fun _ => .inr rfl) _
              have hGn := hN1.chg getv.rel_keeps ((Chg.refl (fun i => i = A) w9).setCell (p := ⟨A, 5, none⟩) (fun _ => rfl) (.slice (some ⟨g, 0, none⟩) (k + 1) cap')) (fun i hi => by omega)
              have hAn : Blk (w9.setCell ⟨A, 5, none⟩ (.slice (some ⟨g, 0, none⟩) (k + 1) cap')) A #[.string x1.modn, .slice fa x1.vars.length fm, .slice fc x1.procs.length fd, .slice a2 x2.length c2, .slice a3 x3.length c3, .slice (some ⟨g, 0, none⟩) (k + 1) cap', .slice none 0 0, .slice none 0 0, .slice none 0 0, .int .i64 0, .int .i64 0, .int .i64 0, .int .i64 0] 31 := hA9.set 5 _
              go_roundw
              case rel => exact ⟨k + 1, _, xs ++ [⟨px0, px1, px2, px3⟩], pt3, by go_num, by simp [HXS.out], hAn, hGn, hRn, HFN2.out, by omega, hCn, by rw [HQQ.out]; exact HTN2.out⟩
              case measure => simp [intOf]; omega
            | none =>
              have hbad : wr.cell? ⟨S, 2, none⟩ = some (.bool true) := hbad
              have hend := Lib.hid (hTr.out.trans (pre_end (.inr rfl)))
              clear hTr
              go_wp2_with fail
              go_meet
              exact ⟨v, xs, none, hA, hG, hR, hCr, hend⟩
          · have hend := Lib.hid (hTr.out.trans (pre_end (.inl (by omega))))
            clear hTr
            go_wp2_with fail
            go_meet
            exact ⟨v, xs, st, hA, hG, hR, hCr, hend⟩
      case rest =>
        generalize wc = vk at *
        obtain ⟨va, x4, s4, hAk2, hGk, hRk2, hCk2, hTek⟩ := hcut
        have hXk2 : Ext w vk := hXk.trans hCk2 (fun i hi e => by omega)
        have hDk2 := hDk.chg hCk2 (by omega)
        have hOq := hOk.chg hCk2 (fun i hi => by omega)
        have hrow := (hGk.row getv.rel_keeps getv.rel_lies).keeps (fun _ _ _ => RelIn.keeps (keeps_low (show A + 1 ≤ wk.heap.size by omega))) (keeps_low (show A + 1 ≤ wk.heap.size by omega))
        obtain ⟨a4, c4, rfl, -, -, hrow⟩ := hrow
        have hOk2 : getw.ObjD (hide (below (A + 1)) vk) x1 fa fm fc fd x2 a2 x3 a3 x4 a4 [] none [] none [] none := ⟨hOq.1, hOq.2.1, hOq.2.2.1, hrow, hOq.2.2.2.2⟩
        clear hGk hCk2 hXk hDk hAk hOk hRk hOq hrow
        obtain ⟨x5, s5, hqp5⟩ : ∃ y z, qList qPlc (fun xs s => (xs, s)) s4 = (y, z) := ⟨_, _, rfl⟩
        have HCp5 := Lib.hid (places_any hRk2 hs)
        rw [hqp5] at HCp5
        have HQp5 := Lib.hid hqp5
        clear hqp5
        go_wp2_with fail
        refine HCp5.out.mono ?_
        rintro e w5 ⟨hCp5, hRp5, v, rfl, hv⟩
        have hRp5 : RfAt w w5 S L s5 := hRp5
        clear HCp5
        have hb5 := (hAk2).lt
        have hXp5 := getw.ext_rd hXk2 (by omega) hCp5
        have hDp5 := hDk2.chg hCp5 (by omega)
        have hAp5 := hAk2.chg hCp5 (by omega)
        have hOp5 := hOk2.chg hCp5 (fun i hi => by omega)
        have hrow := RowAt.keeps (fun _ _ _ => PlcIn.keeps (keeps_low (show A + 1 ≤ _ from hb5))) (keeps_low (show A + 1 ≤ _ from hb5)) hv
        obtain ⟨a5, c5, rfl, -, -, hrow⟩ := hrow
        clear hXk2 hDk2 hAk2 hOk2 hCp5
        have hP5 : getw.ObjD (hide (below (A + 1)) w5) x1 fa fm fc fd x2 a2 x3 a3 x4 a4 x5 a5 [] none [] none := ⟨hOp5.1, hOp5.2.1, hOp5.2.2.1, hOp5.2.2.2.1, hrow, hOp5.2.2.2.2.2⟩
        clear hrow hOp5 hb5
        have hAc := hAp5.cell
        have hAf := hAp5.frozen
        have hAl := hAp5.lt
        have hAp5s : Blk (w5.setCell ⟨A, 6, none⟩ (.slice a5 x5.length c5)) A #[.string x1.modn, .slice fa x1.vars.length fm, .slice fc x1.procs.length fd, .slice a2 x2.length c2, .slice a3 x3.length c3, .slice a4 x4.length c4, .slice a5 x5.length c5, .slice none 0 0, .slice none 0 0, .int .i64 0, .int .i64 0, .int .i64 0, .int .i64 0] 31 := (hAp5.set 6 _)
        have hDp5s : Blk (w5.setCell ⟨A, 6, none⟩ (.slice a5 x5.length c5)) D #[.string ⟨#[]⟩, .slice none 0 0, .slice none 0 0, .slice none 0 0, .slice none 0 0, .slice none 0 0, .slice none 0 0, .slice none 0 0, .slice none 0 0, .int .i64 0, .int .i64 0, .int .i64 0, .int .i64 0] 31 := (hDp5.setOther (p := ⟨A, 6, none⟩) (by show _ ≠ A; omega) _)
        have hXp5s : Ext w (w5.setCell ⟨A, 6, none⟩ (.slice a5 x5.length c5)) := (hXp5.setNew (p := ⟨A, 6, none⟩) (by show _ ≤ A; omega) _)
        have hRp5s : RfAt w (w5.setCell ⟨A, 6, none⟩ (.slice a5 x5.length c5)) S L s5 := (hRp5.setFar (p := ⟨A, 6, none⟩) (by show A ≠ S; omega) (by show _ ≤ A; omega) _)
        have hOp5s : getw.ObjD (hide (below (A + 1)) (w5.setCell ⟨A, 6, none⟩ (.slice a5 x5.length c5))) x1 fa fm fc fd x2 a2 x3 a3 x4 a4 x5 a5 [] none [] none := (hP5.set (p := ⟨A, 6, none⟩) (by show A < _; omega) _)
        obtain ⟨x6, s6, hqp6⟩ : ∃ y z, qList qPlc (fun xs s => (xs, s)) s5 = (y, z) := ⟨_, _, rfl⟩
        have HCp6 := Lib.hid (places_any hRp5s hs)
        rw [hqp6] at HCp6
        have HQp6 := Lib.hid hqp6
        clear hqp6
        go_wp2_with fail
        refine HCp6.out.mono ?_
        rintro e w6 ⟨hCp6, hRp6, v, rfl, hv⟩
        have hRp6 : RfAt w w6 S L s6 := hRp6
        clear HCp6
        have hb6 := (hAp5s).lt
        have hXp6 := getw.ext_rd hXp5s (by omega) hCp6
        have hDp6 := hDp5s.chg hCp6 (by omega)
        have hAp6 := hAp5s.chg hCp6 (by omega)
        have hOp6 := hOp5s.chg hCp6 (fun i hi => by omega)
        have hrow := RowAt.keeps (fun _ _ _ => PlcIn.keeps (keeps_low (show A + 1 ≤ _ from hb6))) (keeps_low (show A + 1 ≤ _ from hb6)) hv
        obtain ⟨a6, c6, rfl, -, -, hrow⟩ := hrow
        clear hXp5s hDp5s hAp5s hOp5s hCp6
        have hP6 : getw.ObjD (hide (below (A + 1)) w6) x1 fa fm fc fd x2 a2 x3 a3 x4 a4 x5 a5 x6 a6 [] none := ⟨hOp6.1, hOp6.2.1, hOp6.2.2.1, hOp6.2.2.2.1, hOp6.2.2.2.2.1, hrow, hOp6.2.2.2.2.2.2⟩
        clear hrow hOp6 hb6
        have hAc := hAp6.cell
        have hAf := hAp6.frozen
        have hAl := hAp6.lt
        have hAp6s : Blk (w6.setCell ⟨A, 7, none⟩ (.slice a6 x6.length c6)) A #[.string x1.modn, .slice fa x1.vars.length fm, .slice fc x1.procs.length fd, .slice a2 x2.length c2, .slice a3 x3.length c3, .slice a4 x4.length c4, .slice a5 x5.length c5, .slice a6 x6.length c6, .slice none 0 0, .int .i64 0, .int .i64 0, .int .i64 0, .int .i64 0] 31 := (hAp6.set 7 _)
        have hDp6s : Blk (w6.setCell ⟨A, 7, none⟩ (.slice a6 x6.length c6)) D #[.string ⟨#[]⟩, .slice none 0 0, .slice none 0 0, .slice none 0 0, .slice none 0 0, .slice none 0 0, .slice none 0 0, .slice none 0 0, .slice none 0 0, .int .i64 0, .int .i64 0, .int .i64 0, .int .i64 0] 31 := (hDp6.setOther (p := ⟨A, 7, none⟩) (by show _ ≠ A; omega) _)
        have hXp6s : Ext w (w6.setCell ⟨A, 7, none⟩ (.slice a6 x6.length c6)) := (hXp6.setNew (p := ⟨A, 7, none⟩) (by show _ ≤ A; omega) _)
        have hRp6s : RfAt w (w6.setCell ⟨A, 7, none⟩ (.slice a6 x6.length c6)) S L s6 := (hRp6.setFar (p := ⟨A, 7, none⟩) (by show A ≠ S; omega) (by show _ ≤ A; omega) _)
        have hOp6s : getw.ObjD (hide (below (A + 1)) (w6.setCell ⟨A, 7, none⟩ (.slice a6 x6.length c6))) x1 fa fm fc fd x2 a2 x3 a3 x4 a4 x5 a5 x6 a6 [] none := (hP6.set (p := ⟨A, 7, none⟩) (by show A < _; omega) _)
        obtain ⟨x7, s7, hqp7⟩ : ∃ y z, qList qPlc (fun xs s => (xs, s)) s6 = (y, z) := ⟨_, _, rfl⟩
        have HCp7 := Lib.hid (places_any hRp6s hs)
        rw [hqp7] at HCp7
        have HQp7 := Lib.hid hqp7
        clear hqp7
        go_wp2_with fail
        refine HCp7.out.mono ?_
        rintro e w7 ⟨hCp7, hRp7, v, rfl, hv⟩
        have hRp7 : RfAt w w7 S L s7 := hRp7
        clear HCp7
        have hb7 := (hAp6s).lt
        have hXp7 := getw.ext_rd hXp6s (by omega) hCp7
        have hDp7 := hDp6s.chg hCp7 (by omega)
        have hAp7 := hAp6s.chg hCp7 (by omega)
        have hOp7 := hOp6s.chg hCp7 (fun i hi => by omega)
        have hrow := RowAt.keeps (fun _ _ _ => PlcIn.keeps (keeps_low (show A + 1 ≤ _ from hb7))) (keeps_low (show A + 1 ≤ _ from hb7)) hv
        obtain ⟨a7, c7, rfl, -, -, hrow⟩ := hrow
        clear hXp6s hDp6s hAp6s hOp6s hCp7
        have hP7 : getw.ObjD (hide (below (A + 1)) w7) x1 fa fm fc fd x2 a2 x3 a3 x4 a4 x5 a5 x6 a6 x7 a7 := ⟨hOp7.1, hOp7.2.1, hOp7.2.2.1, hOp7.2.2.2.1, hOp7.2.2.2.2.1, hOp7.2.2.2.2.2.1, hrow⟩
        clear hrow hOp7 hb7
        have hAc := hAp7.cell
        have hAf := hAp7.frozen
        have hAl := hAp7.lt
        have hAp7s : Blk (w7.setCell ⟨A, 8, none⟩ (.slice a7 x7.length c7)) A #[.string x1.modn, .slice fa x1.vars.length fm, .slice fc x1.procs.length fd, .slice a2 x2.length c2, .slice a3 x3.length c3, .slice a4 x4.length c4, .slice a5 x5.length c5, .slice a6 x6.length c6, .slice a7 x7.length c7, .int .i64 0, .int .i64 0, .int .i64 0, .int .i64 0] 31 := (hAp7.set 8 _)
        have hDp7s : Blk (w7.setCell ⟨A, 8, none⟩ (.slice a7 x7.length c7)) D #[.string ⟨#[]⟩, .slice none 0 0, .slice none 0 0, .slice none 0 0, .slice none 0 0, .slice none 0 0, .slice none 0 0, .slice none 0 0, .slice none 0 0, .int .i64 0, .int .i64 0, .int .i64 0, .int .i64 0] 31 := (hDp7.setOther (p := ⟨A, 8, none⟩) (by show _ ≠ A; omega) _)
        have hXp7s : Ext w (w7.setCell ⟨A, 8, none⟩ (.slice a7 x7.length c7)) := (hXp7.setNew (p := ⟨A, 8, none⟩) (by show _ ≤ A; omega) _)
        have hRp7s : RfAt w (w7.setCell ⟨A, 8, none⟩ (.slice a7 x7.length c7)) S L s7 := (hRp7.setFar (p := ⟨A, 8, none⟩) (by show A ≠ S; omega) (by show _ ≤ A; omega) _)
        have hOp7s : getw.ObjD (hide (below (A + 1)) (w7.setCell ⟨A, 8, none⟩ (.slice a7 x7.length c7))) x1 fa fm fc fd x2 a2 x3 a3 x4 a4 x5 a5 x6 a6 x7 a7 := (hP7.set (p := ⟨A, 8, none⟩) (by show A < _; omega) _)
        obtain ⟨x8, s8, hqe8⟩ : ∃ y z, qNum s7 = (y, z) := ⟨_, _, rfl⟩
        have HCe8 := Lib.hid (number_any hRp7s)
        rw [hqe8] at HCe8
        have HQe8 := Lib.hid hqe8
        clear hqe8
        go_wp2_with fail
        refine HCe8.out.mono ?_
        rintro e w8 ⟨hCe8, hRe8, v, rfl, rfl⟩
        have hRe8 : RfAt w w8 S L s8 := hRe8
        clear HCe8
        have hXe8 := getw.ext_rd hXp7s (by omega) hCe8
        have hDe8 := hDp7s.chg hCe8 (by omega)
        have hAe8 := hAp7s.chg hCe8 (by omega)
        have hOe8 := hOp7s.chg hCe8 (fun i hi => by omega)
        clear hXp7s hDp7s hAp7s hOp7s hCe8
        have hAc := hAe8.cell
        have hAf := hAe8.frozen
        have hAl := hAe8.lt
        have hAe8s : Blk (w8.setCell ⟨A, 9, none⟩ (.int .i64 x8)) A #[.string x1.modn, .slice fa x1.vars.length fm, .slice fc x1.procs.length fd, .slice a2 x2.length c2, .slice a3 x3.length c3, .slice a4 x4.length c4, .slice a5 x5.length c5, .slice a6 x6.length c6, .slice a7 x7.length c7, .int .i64 x8, .int .i64 0, .int .i64 0, .int .i64 0] 31 := (hAe8.set 9 _)
        have hDe8s : Blk (w8.setCell ⟨A, 9, none⟩ (.int .i64 x8)) D #[.string ⟨#[]⟩, .slice none 0 0, .slice none 0 0, .slice none 0 0, .slice none 0 0, .slice none 0 0, .slice none 0 0, .slice none 0 0, .slice none 0 0, .int .i64 0, .int .i64 0, .int .i64 0, .int .i64 0] 31 := (hDe8.setOther (p := ⟨A, 9, none⟩) (by show _ ≠ A; omega) _)
        have hXe8s : Ext w (w8.setCell ⟨A, 9, none⟩ (.int .i64 x8)) := (hXe8.setNew (p := ⟨A, 9, none⟩) (by show _ ≤ A; omega) _)
        have hRe8s : RfAt w (w8.setCell ⟨A, 9, none⟩ (.int .i64 x8)) S L s8 := (hRe8.setFar (p := ⟨A, 9, none⟩) (by show A ≠ S; omega) (by show _ ≤ A; omega) _)
        have hOe8s : getw.ObjD (hide (below (A + 1)) (w8.setCell ⟨A, 9, none⟩ (.int .i64 x8))) x1 fa fm fc fd x2 a2 x3 a3 x4 a4 x5 a5 x6 a6 x7 a7 := (hOe8.set (p := ⟨A, 9, none⟩) (by show A < _; omega) _)
        obtain ⟨x9, s9, hqe9⟩ : ∃ y z, qNum s8 = (y, z) := ⟨_, _, rfl⟩
        have HCe9 := Lib.hid (number_any hRe8s)
        rw [hqe9] at HCe9
        have HQe9 := Lib.hid hqe9
        clear hqe9
        go_wp2_with fail
        refine HCe9.out.mono ?_
        rintro e w9 ⟨hCe9, hRe9, v, rfl, rfl⟩
        have hRe9 : RfAt w w9 S L s9 := hRe9
        clear HCe9
        have hXe9 := getw.ext_rd hXe8s (by omega) hCe9
        have hDe9 := hDe8s.chg hCe9 (by omega)
        have hAe9 := hAe8s.chg hCe9 (by omega)
        have hOe9 := hOe8s.chg hCe9 (fun i hi => by omega)
        clear hXe8s hDe8s hAe8s hOe8s hCe9
        have hAc := hAe9.cell
        have hAf := hAe9.frozen
        have hAl := hAe9.lt
        have hAe9s : Blk (w9.setCell ⟨A, 10, none⟩ (.int .i64 x9)) A #[.string x1.modn, .slice fa x1.vars.length fm, .slice fc x1.procs.length fd, .slice a2 x2.length c2, .slice a3 x3.length c3, .slice a4 x4.length c4, .slice a5 x5.length c5, .slice a6 x6.length c6, .slice a7 x7.length c7, .int .i64 x8, .int .i64 x9, .int .i64 0, .int .i64 0] 31 := (hAe9.set 10 _)
        have hDe9s : Blk (w9.setCell ⟨A, 10, none⟩ (.int .i64 x9)) D #[.string ⟨#[]⟩, .slice none 0 0, .slice none 0 0, .slice none 0 0, .slice none 0 0, .slice none 0 0, .slice none 0 0, .slice none 0 0, .slice none 0 0, .int .i64 0, .int .i64 0, .int .i64 0, .int .i64 0] 31 := (hDe9.setOther (p := ⟨A, 10, none⟩) (by show _ ≠ A; omega) _)
        have hXe9s : Ext w (w9.setCell ⟨A, 10, none⟩ (.int .i64 x9)) := (hXe9.setNew (p := ⟨A, 10, none⟩) (by show _ ≤ A; omega) _)
        have hRe9s : RfAt w (w9.setCell ⟨A, 10, none⟩ (.int .i64 x9)) S L s9 := (hRe9.setFar (p := ⟨A, 10, none⟩) (by show A ≠ S; omega) (by show _ ≤ A; omega) _)
        have hOe9s : getw.ObjD (hide (below (A + 1)) (w9.setCell ⟨A, 10, none⟩ (.int .i64 x9))) x1 fa fm fc fd x2 a2 x3 a3 x4 a4 x5 a5 x6 a6 x7 a7 := (hOe9.set (p := ⟨A, 10, none⟩) (by show A < _; omega) _)
        obtain ⟨x10, s10, hqe10⟩ : ∃ y z, qNum s9 = (y, z) := ⟨_, _, rfl⟩
        have HCe10 := Lib.hid (number_any hRe9s)
        rw [hqe10] at HCe10
        have HQe10 := Lib.hid hqe10
        clear hqe10
        go_wp2_with fail
        refine HCe10.out.mono ?_
        rintro e w10 ⟨hCe10, hRe10, v, rfl, rfl⟩
        have hRe10 : RfAt w w10 S L s10 := hRe10
        clear HCe10
        have hXe10 := getw.ext_rd hXe9s (by omega) hCe10
        have hDe10 := hDe9s.chg hCe10 (by omega)
        have hAe10 := hAe9s.chg hCe10 (by omega)
        have hOe10 := hOe9s.chg hCe10 (fun i hi => by omega)
        clear hXe9s hDe9s hAe9s hOe9s hCe10
        have hAc := hAe10.cell
        have hAf := hAe10.frozen
        have hAl := hAe10.lt
        have hAe10s : Blk (w10.setCell ⟨A, 11, none⟩ (.int .i64 x10)) A #[.string x1.modn, .slice fa x1.vars.length fm, .slice fc x1.procs.length fd, .slice a2 x2.length c2, .slice a3 x3.length c3, .slice a4 x4.length c4, .slice a5 x5.length c5, .slice a6 x6.length c6, .slice a7 x7.length c7, .int .i64 x8, .int .i64 x9, .int .i64 x10, .int .i64 0] 31 := (hAe10.set 11 _)
        have hDe10s : Blk (w10.setCell ⟨A, 11, none⟩ (.int .i64 x10)) D #[.string ⟨#[]⟩, .slice none 0 0, .slice none 0 0, .slice none 0 0, .slice none 0 0, .slice none 0 0, .slice none 0 0, .slice none 0 0, .slice none 0 0, .int .i64 0, .int .i64 0, .int .i64 0, .int .i64 0] 31 := (hDe10.setOther (p := ⟨A, 11, none⟩) (by show _ ≠ A; omega) _)
        have hXe10s : Ext w (w10.setCell ⟨A, 11, none⟩ (.int .i64 x10)) := (hXe10.setNew (p := ⟨A, 11, none⟩) (by show _ ≤ A; omega) _)
        have hRe10s : RfAt w (w10.setCell ⟨A, 11, none⟩ (.int .i64 x10)) S L s10 := (hRe10.setFar (p := ⟨A, 11, none⟩) (by show A ≠ S; omega) (by show _ ≤ A; omega) _)
        have hOe10s : getw.ObjD (hide (below (A + 1)) (w10.setCell ⟨A, 11, none⟩ (.int .i64 x10))) x1 fa fm fc fd x2 a2 x3 a3 x4 a4 x5 a5 x6 a6 x7 a7 := (hOe10.set (p := ⟨A, 11, none⟩) (by show A < _; omega) _)
        obtain ⟨x11, s11, hqe11⟩ : ∃ y z, qNum s10 = (y, z) := ⟨_, _, rfl⟩
        have HCe11 := Lib.hid (number_any hRe10s)
        rw [hqe11] at HCe11
        have HQe11 := Lib.hid hqe11
        clear hqe11
        go_wp2_with fail
        refine HCe11.out.mono ?_
        rintro e w11 ⟨hCe11, hRe11, v, rfl, rfl⟩
        have hRe11 : RfAt w w11 S L s11 := hRe11
        clear HCe11
        have hXe11 := getw.ext_rd hXe10s (by omega) hCe11
        have hDe11 := hDe10s.chg hCe11 (by omega)
        have hAe11 := hAe10s.chg hCe11 (by omega)
        have hOe11 := hOe10s.chg hCe11 (fun i hi => by omega)
        clear hXe10s hDe10s hAe10s hOe10s hCe11
        have hAc := hAe11.cell
        have hAf := hAe11.frozen
        have hAl := hAe11.lt
        have hAe11s : Blk (w11.setCell ⟨A, 12, none⟩ (.int .i64 x11)) A #[.string x1.modn, .slice fa x1.vars.length fm, .slice fc x1.procs.length fd, .slice a2 x2.length c2, .slice a3 x3.length c3, .slice a4 x4.length c4, .slice a5 x5.length c5, .slice a6 x6.length c6, .slice a7 x7.length c7, .int .i64 x8, .int .i64 x9, .int .i64 x10, .int .i64 x11] 31 := (hAe11.set 12 _)
        have hDe11s : Blk (w11.setCell ⟨A, 12, none⟩ (.int .i64 x11)) D #[.string ⟨#[]⟩, .slice none 0 0, .slice none 0 0, .slice none 0 0, .slice none 0 0, .slice none 0 0, .slice none 0 0, .slice none 0 0, .slice none 0 0, .int .i64 0, .int .i64 0, .int .i64 0, .int .i64 0] 31 := (hDe11.setOther (p := ⟨A, 12, none⟩) (by show _ ≠ A; omega) _)
        have hXe11s : Ext w (w11.setCell ⟨A, 12, none⟩ (.int .i64 x11)) := (hXe11.setNew (p := ⟨A, 12, none⟩) (by show _ ≤ A; omega) _)
        have hRe11s : RfAt w (w11.setCell ⟨A, 12, none⟩ (.int .i64 x11)) S L s11 := (hRe11.setFar (p := ⟨A, 12, none⟩) (by show A ≠ S; omega) (by show _ ≤ A; omega) _)
        have hOe11s : getw.ObjD (hide (below (A + 1)) (w11.setCell ⟨A, 12, none⟩ (.int .i64 x11))) x1 fa fm fc fd x2 a2 x3 a3 x4 a4 x5 a5 x6 a6 x7 a7 := (hOe11.set (p := ⟨A, 12, none⟩) (by show A < _; omega) _)
        go_upto_region 38 with (fail)
        generalize w11.setCell ⟨A, 12, none⟩ (.int .i64 x11) = ub at *
        have hobj : qObj (some L) = (⟨x1, x2, x3, x4, x5, x6, x7, x8, x9, x10, x11⟩, bad N (bad M (bad K s11))) := by
          unfold qObj qPlaces
          rw [qMap_eq HQz.out]
          rw [list_step HQn.out (HTn.out.trans hTen.out)]
          rw [list_step HQm.out (HTm.out.trans hTem.out)]
          rw [list_step HQk.out (HTk.out.trans hTek.out)]
          simp only [qMap, HQp5.out, HQp6.out, HQp7.out, HQe8.out, HQe9.out, HQe10.out, HQe11.out]
        have HO := Lib.hid hobj
        obtain ⟨zv, zn, zb, hzS, hzv, hzst⟩ := hRe11s.ex
        obtain ⟨za, zc, rfl, -, -, -⟩ := hzv.ex
        have hok : ∀ x, T = some (x, []) → zb = false ∧ 0 ≤ N ∧ 0 ≤ M ∧ 0 ≤ K ∧ zn = L.length := fun x hx => by
          have h := obj.yes L x [] (HT.out.trans hx)
          rw [HO.out] at h
          have h := (Prod.mk.inj h).2
          obtain ⟨g1, h⟩ := bad_some h
          obtain ⟨g2, h⟩ := bad_some h
          obtain ⟨g3, h⟩ := bad_some h
          subst h
          obtain ⟨g4, g5, g6⟩ := stands_some hzst
          have := congrArg List.length g6
          rw [List.length_drop, List.length_nil] at this
          exact ⟨g5, g1, g2, g3, by omega⟩
        have hyes : zb = false → 0 ≤ N → 0 ≤ M → 0 ≤ K → zn = L.length → T = some (⟨x1, x2, x3, x4, x5, x6, x7, x8, x9, x10, x11⟩, []) := fun g1 g2 g3 g4 g5 => by
          rw [← HT.out]
          refine obj_iff ?_
          rw [HO.out]
          have e : s11 = some [] := by
            cases s11 with
            | none => obtain ⟨-, e⟩ := stands_none hzst; rw [g1] at e; cases e
            | some l => obtain ⟨-, -, e⟩ := stands_some hzst; rw [e, g5, List.drop_length]
          rw [e]
          unfold bad
          rw [if_neg (by omega), if_neg (by omega), if_neg (by omega)]
        have HK := Lib.hid (And.intro hok hyes)
        have HDA := Lib.hid hOe11s
        have hX := hXe11s
        have hD := hDe11s
        have hA := hAe11s
        have hSc := hzS.cell
        have hAc := hA.cell
        have hDc := hD.cell
        have hDf := hD.frozen
        have hDl := hD.lt
        clear hobj hok hyes hzS hzv hzst hRe11s hOe11s hXe11s hDe11s hAe11s
        obtain ⟨m, hm⟩ : ∃ m, L.length = m := ⟨_, rfl⟩
        have HLM := Lib.hid hm
        rw [hm] at HK
        simp only [hm]
        clear hm
        cases zb with
        | true =>
          have HF := Lib.hid (show ∀ x, T = some (x, []) → mayObjB x = false from fun x hx => by have h := HK.out.1 x hx; cases h.1)
          go_wp2_with fail
          have hw : (((((((((((((ub.setCell ⟨D, 0, none⟩ (.string ⟨#[]⟩)).setCell ⟨D, 1, none⟩ (.slice none 0 0)).setCell ⟨D, 2, none⟩ (.slice none 0 0)).setCell ⟨D, 3, none⟩ (.slice none 0 0)).setCell ⟨D, 4, none⟩ (.slice none 0 0)).setCell ⟨D, 5, none⟩ (.slice none 0 0)).setCell ⟨D, 6, none⟩ (.slice none 0 0)).setCell ⟨D, 7, none⟩ (.slice none 0 0)).setCell ⟨D, 8, none⟩ (.slice none 0 0)).setCell ⟨D, 9, none⟩ (.int .i64 0)).setCell ⟨D, 10, none⟩ (.int .i64 0)).setCell ⟨D, 11, none⟩ (.int .i64 0)).setCell ⟨D, 12, none⟩ (.int .i64 0)) = Go.Proofs.YtpcihajmcejliaaGreatDoor.sets ub D 0 [.string ⟨#[]⟩, .slice none 0 0, .slice none 0 0, .slice none 0 0, .slice none 0 0, .slice none 0 0, .slice none 0 0, .slice none 0 0, .slice none 0 0, .int .i64 0, .int .i64 0, .int .i64 0, .int .i64 0] := rfl
          rw [hw]
          clear hw hDc hDf hDl
          refine bodyPost_ret (results_cell2 rfl _ _ rfl (hD.setsAll [.string ⟨#[]⟩, .slice none 0 0, .slice none 0 0, .slice none 0 0, .slice none 0 0, .slice none 0 0, .slice none 0 0, .slice none 0 0, .slice none 0 0, .int .i64 0, .int .i64 0, .int .i64 0, .int .i64 0] rfl) Tryz.underlying31 rfl (by kernel_rfl)) rfl ?_
          exact getw.GetPost.fails (hX.trans (sets_chg ub D _ 0) (fun i hi e => by omega)) HF.out
        | false =>
          by_cases hN : N < 0
          · have dN : decide (N < 0) = true := decide_eq_true hN
            have HF := Lib.hid (show ∀ x, T = some (x, []) → mayObjB x = false from fun x hx => by have h := HK.out.1 x hx; omega)
            go_wp2_with fail
            have hw : (((((((((((((ub.setCell ⟨D, 0, none⟩ (.string ⟨#[]⟩)).setCell ⟨D, 1, none⟩ (.slice none 0 0)).setCell ⟨D, 2, none⟩ (.slice none 0 0)).setCell ⟨D, 3, none⟩ (.slice none 0 0)).setCell ⟨D, 4, none⟩ (.slice none 0 0)).setCell ⟨D, 5, none⟩ (.slice none 0 0)).setCell ⟨D, 6, none⟩ (.slice none 0 0)).setCell ⟨D, 7, none⟩ (.slice none 0 0)).setCell ⟨D, 8, none⟩ (.slice none 0 0)).setCell ⟨D, 9, none⟩ (.int .i64 0)).setCell ⟨D, 10, none⟩ (.int .i64 0)).setCell ⟨D, 11, none⟩ (.int .i64 0)).setCell ⟨D, 12, none⟩ (.int .i64 0)) = Go.Proofs.YtpcihajmcejliaaGreatDoor.sets ub D 0 [.string ⟨#[]⟩, .slice none 0 0, .slice none 0 0, .slice none 0 0, .slice none 0 0, .slice none 0 0, .slice none 0 0, .slice none 0 0, .slice none 0 0, .int .i64 0, .int .i64 0, .int .i64 0, .int .i64 0] := rfl
            rw [hw]
            clear hw hDc hDf hDl
            refine bodyPost_ret (results_cell2 rfl _ _ rfl (hD.setsAll [.string ⟨#[]⟩, .slice none 0 0, .slice none 0 0, .slice none 0 0, .slice none 0 0, .slice none 0 0, .slice none 0 0, .slice none 0 0, .slice none 0 0, .int .i64 0, .int .i64 0, .int .i64 0, .int .i64 0] rfl) Tryz.underlying31 rfl (by kernel_rfl)) rfl ?_
            exact getw.GetPost.fails (hX.trans (sets_chg ub D _ 0) (fun i hi e => by omega)) HF.out
          have dN : decide (N < 0) = false := decide_eq_false hN
          by_cases hM : M < 0
          · have dM : decide (M < 0) = true := decide_eq_true hM
            have HF := Lib.hid (show ∀ x, T = some (x, []) → mayObjB x = false from fun x hx => by have h := HK.out.1 x hx; omega)
            go_wp2_with fail
            have hw : (((((((((((((ub.setCell ⟨D, 0, none⟩ (.string ⟨#[]⟩)).setCell ⟨D, 1, none⟩ (.slice none 0 0)).setCell ⟨D, 2, none⟩ (.slice none 0 0)).setCell ⟨D, 3, none⟩ (.slice none 0 0)).setCell ⟨D, 4, none⟩ (.slice none 0 0)).setCell ⟨D, 5, none⟩ (.slice none 0 0)).setCell ⟨D, 6, none⟩ (.slice none 0 0)).setCell ⟨D, 7, none⟩ (.slice none 0 0)).setCell ⟨D, 8, none⟩ (.slice none 0 0)).setCell ⟨D, 9, none⟩ (.int .i64 0)).setCell ⟨D, 10, none⟩ (.int .i64 0)).setCell ⟨D, 11, none⟩ (.int .i64 0)).setCell ⟨D, 12, none⟩ (.int .i64 0)) = Go.Proofs.YtpcihajmcejliaaGreatDoor.sets ub D 0 [.string ⟨#[]⟩, .slice none 0 0, .slice none 0 0, .slice none 0 0, .slice none 0 0, .slice none 0 0, .slice none 0 0, .slice none 0 0, .slice none 0 0, .int .i64 0, .int .i64 0, .int .i64 0, .int .i64 0] := rfl
            rw [hw]
            clear hw hDc hDf hDl
            refine bodyPost_ret (results_cell2 rfl _ _ rfl (hD.setsAll [.string ⟨#[]⟩, .slice none 0 0, .slice none 0 0, .slice none 0 0, .slice none 0 0, .slice none 0 0, .slice none 0 0, .slice none 0 0, .slice none 0 0, .int .i64 0, .int .i64 0, .int .i64 0, .int .i64 0] rfl) Tryz.underlying31 rfl (by kernel_rfl)) rfl ?_
            exact getw.GetPost.fails (hX.trans (sets_chg ub D _ 0) (fun i hi e => by omega)) HF.out
          have dM : decide (M < 0) = false := decide_eq_false hM
          by_cases hK : K < 0
          · have dK : decide (K < 0) = true := decide_eq_true hK
            have HF := Lib.hid (show ∀ x, T = some (x, []) → mayObjB x = false from fun x hx => by have h := HK.out.1 x hx; omega)
            go_wp2_with fail
            have hw : (((((((((((((ub.setCell ⟨D, 0, none⟩ (.string ⟨#[]⟩)).setCell ⟨D, 1, none⟩ (.slice none 0 0)).setCell ⟨D, 2, none⟩ (.slice none 0 0)).setCell ⟨D, 3, none⟩ (.slice none 0 0)).setCell ⟨D, 4, none⟩ (.slice none 0 0)).setCell ⟨D, 5, none⟩ (.slice none 0 0)).setCell ⟨D, 6, none⟩ (.slice none 0 0)).setCell ⟨D, 7, none⟩ (.slice none 0 0)).setCell ⟨D, 8, none⟩ (.slice none 0 0)).setCell ⟨D, 9, none⟩ (.int .i64 0)).setCell ⟨D, 10, none⟩ (.int .i64 0)).setCell ⟨D, 11, none⟩ (.int .i64 0)).setCell ⟨D, 12, none⟩ (.int .i64 0)) = Go.Proofs.YtpcihajmcejliaaGreatDoor.sets ub D 0 [.string ⟨#[]⟩, .slice none 0 0, .slice none 0 0, .slice none 0 0, .slice none 0 0, .slice none 0 0, .slice none 0 0, .slice none 0 0, .slice none 0 0, .int .i64 0, .int .i64 0, .int .i64 0, .int .i64 0] := rfl
            rw [hw]
            clear hw hDc hDf hDl
            refine bodyPost_ret (results_cell2 rfl _ _ rfl (hD.setsAll [.string ⟨#[]⟩, .slice none 0 0, .slice none 0 0, .slice none 0 0, .slice none 0 0, .slice none 0 0, .slice none 0 0, .slice none 0 0, .slice none 0 0, .int .i64 0, .int .i64 0, .int .i64 0, .int .i64 0] rfl) Tryz.underlying31 rfl (by kernel_rfl)) rfl ?_
            exact getw.GetPost.fails (hX.trans (sets_chg ub D _ 0) (fun i hi e => by omega)) HF.out
          have dK : decide (K < 0) = false := decide_eq_false hK
          by_cases hz : ¬ zn = m
          · have dz : ((zn : Int) != (m : Int)) = true := by simp; omega
            have HF := Lib.hid (show ∀ x, T = some (x, []) → mayObjB x = false from fun x hx => by have h := HK.out.1 x hx; exact absurd h.2.2.2.2 hz)
            go_wp2_with fail
            have hw : (((((((((((((ub.setCell ⟨D, 0, none⟩ (.string ⟨#[]⟩)).setCell ⟨D, 1, none⟩ (.slice none 0 0)).setCell ⟨D, 2, none⟩ (.slice none 0 0)).setCell ⟨D, 3, none⟩ (.slice none 0 0)).setCell ⟨D, 4, none⟩ (.slice none 0 0)).setCell ⟨D, 5, none⟩ (.slice none 0 0)).setCell ⟨D, 6, none⟩ (.slice none 0 0)).setCell ⟨D, 7, none⟩ (.slice none 0 0)).setCell ⟨D, 8, none⟩ (.slice none 0 0)).setCell ⟨D, 9, none⟩ (.int .i64 0)).setCell ⟨D, 10, none⟩ (.int .i64 0)).setCell ⟨D, 11, none⟩ (.int .i64 0)).setCell ⟨D, 12, none⟩ (.int .i64 0)) = Go.Proofs.YtpcihajmcejliaaGreatDoor.sets ub D 0 [.string ⟨#[]⟩, .slice none 0 0, .slice none 0 0, .slice none 0 0, .slice none 0 0, .slice none 0 0, .slice none 0 0, .slice none 0 0, .slice none 0 0, .int .i64 0, .int .i64 0, .int .i64 0, .int .i64 0] := rfl
            rw [hw]
            clear hw hDc hDf hDl
            refine bodyPost_ret (results_cell2 rfl _ _ rfl (hD.setsAll [.string ⟨#[]⟩, .slice none 0 0, .slice none 0 0, .slice none 0 0, .slice none 0 0, .slice none 0 0, .slice none 0 0, .slice none 0 0, .slice none 0 0, .int .i64 0, .int .i64 0, .int .i64 0, .int .i64 0] rfl) Tryz.underlying31 rfl (by kernel_rfl)) rfl ?_
            exact getw.GetPost.fails (hX.trans (sets_chg ub D _ 0) (fun i hi e => by omega)) HF.out
          have hz := Classical.not_not.1 hz
          subst hz
          have hT2 := HK.out.2 rfl (by omega) (by omega) (by omega) rfl
          have HT2 := Lib.hid hT2
          have hsm := getw.obj_small (HT.out.trans hT2) hs1
          have hat : ObjAt ub ⟨x1, x2, x3, x4, x5, x6, x7, x8, x9, x10, x11⟩ (.agg #[.string x1.modn, .slice fa x1.vars.length fm, .slice fc x1.procs.length fd, .slice a2 x2.length c2, .slice a3 x3.length c3, .slice a4 x4.length c4, .slice a5 x5.length c5, .slice a6 x6.length c6, .slice a7 x7.length c7, .int .i64 x8, .int .i64 x9, .int .i64 x10, .int .i64 x11]) := by
            obtain ⟨d0, d1, d2, d3, d4, d5, d6⟩ := HDA.out.keeps (keeps_bare _ _)
            exact ⟨fa, fm, fc, fd, a2, c2, a3, c3, a4, c4, a5, c5, a6, c6, a7, c7, rfl, d0, d1, d2, d3, d4, d5, d6⟩
          have HMA := Lib.hid (HM.out ub _ _ hX hat hsm)
          clear hT2 hsm hat HK
          obtain ⟨B, hB⟩ : ∃ B, mayObjB ⟨x1, x2, x3, x4, x5, x6, x7, x8, x9, x10, x11⟩ = B := ⟨_, rfl⟩
          have HB := Lib.hid hB
          rw [hB] at HMA
          clear hB
          have dz : ((zn : Int) != (zn : Int)) = false := by simp
          go_wp2_with fail
          refine HMA.out.mono ?_
          rintro e um ⟨rfl, hEm⟩
          have gD := hD.ext hEm
          have gA := hA.ext hEm
          have gX := hX.ext hEm
          have HDM := Lib.hid (HDA.out.chg hEm (fun _ h => h.elim))
          have hAc := gA.cell
          have hDc := gD.cell
          have hDf := gD.frozen
          have hDl := gD.lt
          clear hEm hSc hD hA hX HMA HDA
          cases B with
          | false =>
            have HF := Lib.hid (show ∀ x, T = some (x, []) → mayObjB x = false from fun x hx => by rw [HT2.out] at hx; cases hx; exact HB.out)
            go_wp2_with fail
            have hw : (((((((((((((um.setCell ⟨D, 0, none⟩ (.string ⟨#[]⟩)).setCell ⟨D, 1, none⟩ (.slice none 0 0)).setCell ⟨D, 2, none⟩ (.slice none 0 0)).setCell ⟨D, 3, none⟩ (.slice none 0 0)).setCell ⟨D, 4, none⟩ (.slice none 0 0)).setCell ⟨D, 5, none⟩ (.slice none 0 0)).setCell ⟨D, 6, none⟩ (.slice none 0 0)).setCell ⟨D, 7, none⟩ (.slice none 0 0)).setCell ⟨D, 8, none⟩ (.slice none 0 0)).setCell ⟨D, 9, none⟩ (.int .i64 0)).setCell ⟨D, 10, none⟩ (.int .i64 0)).setCell ⟨D, 11, none⟩ (.int .i64 0)).setCell ⟨D, 12, none⟩ (.int .i64 0)) = Go.Proofs.YtpcihajmcejliaaGreatDoor.sets um D 0 [.string ⟨#[]⟩, .slice none 0 0, .slice none 0 0, .slice none 0 0, .slice none 0 0, .slice none 0 0, .slice none 0 0, .slice none 0 0, .slice none 0 0, .int .i64 0, .int .i64 0, .int .i64 0, .int .i64 0] := rfl
            rw [hw]
            clear hw hDc hDf hDl
            refine bodyPost_ret (results_cell2 rfl _ _ rfl (gD.setsAll [.string ⟨#[]⟩, .slice none 0 0, .slice none 0 0, .slice none 0 0, .slice none 0 0, .slice none 0 0, .slice none 0 0, .slice none 0 0, .slice none 0 0, .int .i64 0, .int .i64 0, .int .i64 0, .int .i64 0] rfl) Tryz.underlying31 rfl (by kernel_rfl)) rfl ?_
            exact getw.GetPost.fails (gX.trans (sets_chg um D _ 0) (fun i hi e => by omega)) HF.out
          | true =>
            go_wp2_with fail
            have hw : (((((((((((((um.setCell ⟨D, 0, none⟩ (.string x1.modn)).setCell ⟨D, 1, none⟩ (.slice fa x1.vars.length fm)).setCell ⟨D, 2, none⟩ (.slice fc x1.procs.length fd)).setCell ⟨D, 3, none⟩ (.slice a2 x2.length c2)).setCell ⟨D, 4, none⟩ (.slice a3 x3.length c3)).setCell ⟨D, 5, none⟩ (.slice a4 x4.length c4)).setCell ⟨D, 6, none⟩ (.slice a5 x5.length c5)).setCell ⟨D, 7, none⟩ (.slice a6 x6.length c6)).setCell ⟨D, 8, none⟩ (.slice a7 x7.length c7)).setCell ⟨D, 9, none⟩ (.int .i64 x8)).setCell ⟨D, 10, none⟩ (.int .i64 x9)).setCell ⟨D, 11, none⟩ (.int .i64 x10)).setCell ⟨D, 12, none⟩ (.int .i64 x11)) = Go.Proofs.YtpcihajmcejliaaGreatDoor.sets um D 0 [.string x1.modn, .slice fa x1.vars.length fm, .slice fc x1.procs.length fd, .slice a2 x2.length c2, .slice a3 x3.length c3, .slice a4 x4.length c4, .slice a5 x5.length c5, .slice a6 x6.length c6, .slice a7 x7.length c7, .int .i64 x8, .int .i64 x9, .int .i64 x10, .int .i64 x11] := rfl
            rw [hw]
            clear hw hDc hDf hDl
            refine bodyPost_ret (results_cell2 rfl _ _ rfl (gD.setsAll [.string x1.modn, .slice fa x1.vars.length fm, .slice fc x1.procs.length fd, .slice a2 x2.length c2, .slice a3 x3.length c3, .slice a4 x4.length c4, .slice a5 x5.length c5, .slice a6 x6.length c6, .slice a7 x7.length c7, .int .i64 x8, .int .i64 x9, .int .i64 x10, .int .i64 x11] rfl) Tryz.underlying31 rfl (by kernel_rfl)) rfl ?_
            obtain ⟨d0, d1, d2, d3, d4, d5, d6⟩ := (HDM.out.chg (sets_chg um D [.string x1.modn, .slice fa x1.vars.length fm, .slice fc x1.procs.length fd, .slice a2 x2.length c2, .slice a3 x3.length c3, .slice a4 x4.length c4, .slice a5 x5.length c5, .slice a6 x6.length c6, .slice a7 x7.length c7, .int .i64 x8, .int .i64 x9, .int .i64 x10, .int .i64 x11] 0) (fun i hi => by omega)).keeps (keeps_bare _ _)
            exact ⟨gX.trans (sets_chg um D _ 0) (fun i hi e => by omega), .inl ⟨⟨x1, x2, x3, x4, x5, x6, x7, x8, x9, x10, x11⟩, _, HT2.out, HB.out, rfl, fa, fm, fc, fd, a2, c2, a3, c3, a4, c4, a5, c5, a6, c6, a7, c7, rfl, d0, d1, d2, d3, d4, d5, d6⟩⟩
end getr
end Go.Proofs.YtpcihajmcejliaaGreatDoor
