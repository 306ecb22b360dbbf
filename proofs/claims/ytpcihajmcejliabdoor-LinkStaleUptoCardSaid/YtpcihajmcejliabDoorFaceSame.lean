/- The walks of the program's face.Same: its closure on two procedures, slices.EqualFunc with it, Same itself. -/
import Derived.Test.YtpcihajmcejliabDoorFaceEq
namespace Go.Proofs.YtpcihajmcejliabDoor
open Go.RowKit
/-- A procedure's face as a value. -/
def ProcAt (w : World) (x : FProc) (v : Value) : Prop :=
  ∃ a cap, v = .agg #[.string x.name, .bool x.pub, .slice a x.params.length cap, .int .i64 x.writes, .bool x.gives, .int .i64 x.given] ∧ AllIn 1 IntIn w a x.params ∧ x.params.length ≤ cap ∧ cap ≤ maxLen
theorem ProcAt.ext {w w' : World} (hE : Ext w w') {x : FProc} {v : Value} (h : ProcAt w x v) : ProcAt w' x v := by
  obtain ⟨a, cap, rfl, h1, h2⟩ := h
  exact ⟨a, cap, rfl, h1.mono hE.size fun _ _ _ hb h => IntIn.ext hE hb h, h2⟩
namespace face
theorem str_ne {a b : ByteArray} (h : a ≠ b) : (a.toList == b.toList) = false ∧ (a.data.toList == b.data.toList) = false := by
  have h1 : a.data.toList ≠ b.data.toList := fun e => h (ByteArray.ext (Array.ext' e))
  rw [ByteArray.toList_eq, ByteArray.toList_eq]
  exact ⟨by simpa using h1, by simpa using h1⟩
set_option maxRecDepth 100000 in
set_option maxHeartbeats 1000000 in
theorem closure_any (x y : FProc) (v u : Value) (w : World) (hx : ProcAt w x v) (hy : ProcAt w y u) :
    Calls Tryd.prog 23 #[v, u] w fun e w' => e = .returned (.bool (decide (x = y))) ∧ Ext w w' := by
  obtain ⟨a, c, rfl, ha, hac, hcm⟩ := hx
  obtain ⟨b, d, rfl, hb, hbd, hdm⟩ := hy
  have CI := Lib.hid (fun w hl hm => ints_any a b c d x.params y.params w hl hm hac hcm hbd)
  obtain ⟨xn, xp, xl, xw, xg, xv⟩ := x
  obtain ⟨yn, yp, yl, yw, yg, yv⟩ := y
  simp only at ha hb CI
  have HQ := Lib.hid (show FProc.mk xn xp xl xw xg xv = FProc.mk yn yp yl yw yg yv ↔ xn = yn ∧ xp = yp ∧ xl = yl ∧ xw = yw ∧ xg = yg ∧ xv = yv by simp)
  generalize hB : decide (FProc.mk xn xp xl xw xg xv = FProc.mk yn yp yl yw yg yv) = B
  have HB := Lib.hid hB
  have hf : (¬ (FProc.mk xn xp xl xw xg xv = FProc.mk yn yp yl yw yg yv)) → B = false := fun h => by rw [← hB]; exact decide_eq_false h
  have HF := Lib.hid hf
  have hE : Ext w ((w.alloc (.cells #[.string xn, .bool xp, .slice a xl.length c, .int .i64 xw, .bool xg, .int .i64 xv] 62)).alloc (.cells #[.string yn, .bool yp, .slice b yl.length d, .int .i64 yw, .bool yg, .int .i64 yv] 62)) := ((Chg.refl _ _).alloc _).alloc _
  have ha' := ha.mono hE.size fun _ _ _ hb h => IntIn.ext hE hb h
  have hb' := hb.mono hE.size fun _ _ _ hb h => IntIn.ext hE hb h
  have HA := Lib.hid (And.intro ha' hb')
  have HE := Lib.hid hE
  clear hB hf ha hb hac hbd ha' hb' hE hcm hdm
  by_cases e0 : xn = yn
  · subst e0
    by_cases e1 : xp = yp
    · subst e1
      have e2 : (decide (xl = yl) = true) ∨ (decide (xl = yl) = false) := by cases decide (xl = yl) <;> simp
      obtain ⟨nx, hnx⟩ : ∃ n, xl.length = n := ⟨_, rfl⟩
      obtain ⟨ny, hny⟩ : ∃ n, yl.length = n := ⟨_, rfl⟩
      rw [hnx] at HA CI HE ⊢
      rw [hny] at HA CI HE ⊢
      clear hnx hny
      rcases e2 with e2 | e2
      · have he2 := Lib.hid (of_decide_eq_true e2)
        rw [e2] at CI
        clear e2
        by_cases e3 : xw = yw
        · subst e3
          by_cases e4 : xg = yg
          · subst e4
            by_cases e5 : xv = yv
            · subst e5
              have HT := Lib.hid (show B = true by rw [← HB.out]; exact decide_eq_true (HQ.out.2 ⟨rfl, rfl, he2.out, rfl, rfl, rfl⟩))
              go_enter Tryd.func23, Tryd.ntmps23
              go_wp2_with (go_at_call 24; refine (CI.out _ HA.out.1 HA.out.2).mono ?_; rintro e w' ⟨rfl, nq, rfl⟩)
              go_ret
              exact ⟨ret_bool HT.out.symm, HE.out.drewN _⟩
            · have HT := Lib.hid (HF.out fun h => e5 (HQ.out.1 h).2.2.2.2.2)
              have h0 : (xv == yv) = false := by simpa using e5
              clear e5
              go_enter Tryd.func23, Tryd.ntmps23
              go_wp2_with (go_at_call 24; refine (CI.out _ HA.out.1 HA.out.2).mono ?_; rintro e w' ⟨rfl, nq, rfl⟩)
              go_ret
              exact ⟨ret_bool HT.out.symm, HE.out.drewN _⟩
          · have HT := Lib.hid (HF.out fun h => e4 (HQ.out.1 h).2.2.2.2.1)
            have h0 : (xg == yg) = false := by simpa using e4
            clear e4
            go_enter Tryd.func23, Tryd.ntmps23
            go_wp2_with (go_at_call 24; refine (CI.out _ HA.out.1 HA.out.2).mono ?_; rintro e w' ⟨rfl, nq, rfl⟩)
            go_ret
            exact ⟨ret_bool HT.out.symm, HE.out.drewN _⟩
        · have HT := Lib.hid (HF.out fun h => e3 (HQ.out.1 h).2.2.2.1)
          have h0 : (xw == yw) = false := by simpa using e3
          clear e3
          go_enter Tryd.func23, Tryd.ntmps23
          go_wp2_with (go_at_call 24; refine (CI.out _ HA.out.1 HA.out.2).mono ?_; rintro e w' ⟨rfl, nq, rfl⟩)
          go_ret
          exact ⟨ret_bool HT.out.symm, HE.out.drewN _⟩
      · have HT := Lib.hid (HF.out fun h => of_decide_eq_false e2 (HQ.out.1 h).2.2.1)
        rw [e2] at CI
        clear e2
        go_enter Tryd.func23, Tryd.ntmps23
        go_wp2_with (go_at_call 24; refine (CI.out _ HA.out.1 HA.out.2).mono ?_; rintro e w' ⟨rfl, nq, rfl⟩)
        go_ret
        exact ⟨ret_bool HT.out.symm, HE.out.drewN _⟩
    · have HT := Lib.hid (HF.out fun h => e1 (HQ.out.1 h).2.1)
      have h0 : (xp == yp) = false := by simpa using e1
      clear e1
      go_enter Tryd.func23, Tryd.ntmps23
      go_wp2_with fail
      go_ret
      exact ⟨ret_bool HT.out.symm, HE.out⟩
  · have HT := Lib.hid (HF.out fun h => e0 (HQ.out.1 h).1)
    obtain ⟨h0, h1⟩ := str_ne e0
    clear e0
    go_enter Tryd.func23, Tryd.ntmps23
    go_wp2_with fail
    go_ret
    exact ⟨ret_bool HT.out.symm, HE.out⟩
set_option maxRecDepth 100000 in
set_option maxHeartbeats 2000000 in
theorem equalfunc_any (a b : Option Addr) (c d : Nat) (l m : List FProc) (w : World) (hl : AllIn 6 ProcIn w a l) (hm : AllIn 6 ProcIn w b m) (hc : l.length ≤ c) (hc2 : c ≤ maxLen) (hd : m.length ≤ d) :
    Calls Tryd.prog 22 #[.slice a l.length c, .slice b m.length d, .func (.func 23) #[] #[]] w fun e w' => e = .returned (.bool (decide (l = m))) ∧ Ext w w' := by
  unfold maxLen at hc2
  by_cases hlen : l.length = m.length
  · generalize hB : decide (l = m) = B
    have HB := Lib.hid hB
    clear hB
    obtain ⟨n, hn⟩ : ∃ n, l.length = n := ⟨_, rfl⟩
    have HN := Lib.hid hn
    have HM := Lib.hid (hlen.symm.trans hn)
    rw [← hlen, hn]
    rw [hn] at hc
    rw [← hlen, hn] at hd
    have HI := Lib.hid (And.intro hl hm)
    clear hn hlen hl hm
    go_enter Tryd.func22, Tryd.ntmps22
    go_wp2_with fail
    go_loopw [17] (fun i wr => ∃ k : Nat, k ≤ n ∧ i = .int .i64 k ∧ Hid (decide (l.take k = m.take k) = true) ∧ Ext w wr) (fun i _ => n - (intOf i).toNat)
    case atStart => exact ⟨0, Nat.zero_le _, rfl, by simp [Hid], Chg.refl _ _⟩
    case round =>
      obtain ⟨k, hk, rfl, hrel, hE⟩ := hrel
      by_cases hlt : k < n
      · have hki : (k : Int) < (n : Int) := by omega
        have hlk : k < l.length := by rw [HN.out]; exact hlt
        have hmk : k < m.length := by rw [HM.out]; exact hlt
        obtain ⟨bl, ol, rfl, hbl, cl⟩ := HI.out.1 k hlk
        obtain ⟨bm, om, rfl, hbm, cm⟩ := HI.out.2 k hmk
        have hs := take_snoc l m k hlk hmk
        rw [hrel.out, Bool.true_and] at hs
        have HNE := Lib.hid (fun h => take_ne hlk hmk h)
        generalize l[k] = x at *
        generalize m[k] = y at *
        have HS := Lib.hid hs
        obtain ⟨l0, l1, ⟨pa, pc, l2, p1, p2, p3⟩, l3, l4, l5, _⟩ := ProcIn.ext hE hbl cl
        obtain ⟨m0, m1, ⟨qa, qc, m2, q1, q2, q3⟩, m3, m4, m5, _⟩ := ProcIn.ext hE hbm cm
        have hbl' := Nat.lt_of_lt_of_le hbl hE.size
        have hbm' := Nat.lt_of_lt_of_le hbm hE.size
        have CC := Lib.hid (fun (w2 : World) (hE2 : Ext wr w2) => closure_any x y _ _ w2 (ProcAt.ext hE2 ⟨pa, pc, rfl, p1, p2, p3⟩) (ProcAt.ext hE2 ⟨qa, qc, rfl, q1, q2, q3⟩))
        have HE := Lib.hid hE
        clear hs cl cm p1 p2 p3 q1 q2 q3 hE
        obtain ⟨xn, xp, xl, xw, xg, xv⟩ := x
        obtain ⟨yn, yp, yl, yw, yg, yv⟩ := y
        simp only at l0 l1 l2 l3 l4 l5 m0 m1 m2 m3 m4 m5 CC
        obtain ⟨nx, hnx⟩ : ∃ n, xl.length = n := ⟨_, rfl⟩
        obtain ⟨ny, hny⟩ : ∃ n, yl.length = n := ⟨_, rfl⟩
        rw [hnx] at l2 CC
        rw [hny] at m2 CC
        clear hnx hny
        obtain ⟨D, hD⟩ : ∃ D, decide (FProc.mk xn xp xl xw xg xv = FProc.mk yn yp yl yw yg yv) = D := ⟨_, rfl⟩
        rw [hD] at CC
        have HD := Lib.hid hD
        clear hD
        have hX2 : Ext wr ((wr.alloc (.cells #[.string xn, .bool xp, .slice pa nx pc, .int .i64 xw, .bool xg, .int .i64 xv] 62)).alloc (.cells #[.string yn, .bool yp, .slice qa ny qc, .int .i64 yw, .bool yg, .int .i64 yv] 62)) := ((Chg.refl _ _).alloc _).alloc _
        have HX := Lib.hid hX2
        clear hX2
        cases D
        · have HF := Lib.hid (HB.out.symm.trans (HNE.out fun h => of_decide_eq_false HD.out h))
          go_wp2_with fail
          refine (CC.out _ HX.out).mono ?_
          rintro e w' ⟨rfl, hE2⟩
          go_wp2_with fail
          go_ret
          exact ⟨ret_bool HF.out.symm, HE.out.ext (HX.out.ext hE2)⟩
        · have HT := Lib.hid (HS.out.trans HD.out)
          go_wp2_with fail
          refine (CC.out _ HX.out).mono ?_
          rintro e w' ⟨rfl, hE2⟩
          go_wp2_with fail
          go_roundw
          case rel => exact ⟨k + 1, by omega, by go_num, HT.out, HE.out.ext (HX.out.ext hE2)⟩
          case measure => simp [intOf]; omega
      · obtain rfl : k = n := by omega
        have HF := Lib.hid (HB.out.symm.trans (take_all HN.out HM.out hrel.out))
        go_wp2_with fail
        go_ret
        exact ⟨ret_bool HF.out.symm, hE⟩
  · rw [len_ne hlen]
    have hne : ((l.length : Int) == (m.length : Int)) = false := by rw [beq_eq_false_iff_ne]; omega
    obtain ⟨n, hn⟩ : ∃ n, l.length = n := ⟨_, rfl⟩
    obtain ⟨n', hn'⟩ : ∃ n, m.length = n := ⟨_, rfl⟩
    rw [hn, hn'] at hne hlen ⊢
    clear hn hn' hl hm
    go_enter Tryd.func22, Tryd.ntmps22
    go_wp2_with fail
    go_ret
    exact ⟨rfl, Chg.refl _ _⟩
set_option maxRecDepth 100000 in
set_option maxHeartbeats 2000000 in
theorem same_any (x y : FFace) (v u : Value) (w : World) (hx : FaceAt w x v) (hy : FaceAt w y u) :
    Calls Tryd.prog 13 #[v, u] w fun e w' => e = .returned (.bool (decide (x = y))) ∧ Ext w w' := by
  obtain ⟨a, am, c, cm, rfl, ha, hc, _, ha1, ha2, hc1, hc2⟩ := hx
  obtain ⟨b, bm, d, dm, rfl, hb, hd, _, hb1, hb2, hd1, hd2⟩ := hy
  have CV := Lib.hid (fun w hl hm => vars_any a b am bm x.vars y.vars w hl hm ha1 ha2 hb1)
  have CP := Lib.hid (fun w hl hm => equalfunc_any c d cm dm x.procs y.procs w hl hm hc1 hc2 hd1)
  obtain ⟨xn, xv, xp⟩ := x
  obtain ⟨yn, yv, yp⟩ := y
  simp only at ha hc hb hd CV CP
  have HQ := Lib.hid (show FFace.mk xn xv xp = FFace.mk yn yv yp ↔ xn = yn ∧ xv = yv ∧ xp = yp by simp)
  generalize hB : decide (FFace.mk xn xv xp = FFace.mk yn yv yp) = B
  have HB := Lib.hid hB
  have hf : (¬ (FFace.mk xn xv xp = FFace.mk yn yv yp)) → B = false := fun h => by rw [← hB]; exact decide_eq_false h
  have HF := Lib.hid hf
  have hE : Ext w ((w.alloc (.cells #[.string xn, .slice a xv.length am, .slice c xp.length cm] 34)).alloc (.cells #[.string yn, .slice b yv.length bm, .slice d yp.length dm] 34)) := ((Chg.refl _ _).alloc _).alloc _
  have HE := Lib.hid hE
  have HV := Lib.hid (fun w2 (hE : Ext w w2) => And.intro (ha.mono hE.size fun _ _ _ hb h => VarIn.ext hE hb h) (hb.mono hE.size fun _ _ _ hb h => VarIn.ext hE hb h))
  have HP := Lib.hid (fun w2 (hE : Ext w w2) => And.intro (hc.mono hE.size fun _ _ _ hb h => ProcIn.ext hE hb h) (hd.mono hE.size fun _ _ _ hb h => ProcIn.ext hE hb h))
  obtain ⟨n1, hn1⟩ : ∃ n, xv.length = n := ⟨_, rfl⟩
  obtain ⟨n2, hn2⟩ : ∃ n, xp.length = n := ⟨_, rfl⟩
  obtain ⟨n3, hn3⟩ : ∃ n, yv.length = n := ⟨_, rfl⟩
  obtain ⟨n4, hn4⟩ : ∃ n, yp.length = n := ⟨_, rfl⟩
  rw [hn1, hn3] at CV
  rw [hn2, hn4] at CP
  simp only [hn1, hn2, hn3, hn4] at HE ⊢
  clear hB hf ha hb hc hd hE hn1 hn2 hn3 hn4 ha1 ha2 hb1 hb2 hc1 hc2 hd1 hd2
  by_cases e0 : xn = yn
  · subst e0
    have e2 : (decide (xv = yv) = true) ∨ (decide (xv = yv) = false) := by cases decide (xv = yv) <;> simp
    have e3 : (decide (xp = yp) = true) ∨ (decide (xp = yp) = false) := by cases decide (xp = yp) <;> simp
    rcases e2 with e2 | e2
    · have he2 := Lib.hid (of_decide_eq_true e2)
      rw [e2] at CV
      clear e2
      have HT : Hid (B = decide (xp = yp)) := by
        rcases e3 with e3 | e3
        · rw [e3, ← HB.out]; exact decide_eq_true (HQ.out.2 ⟨rfl, he2.out, of_decide_eq_true e3⟩)
        · rw [e3]; exact HF.out fun h => of_decide_eq_false e3 (HQ.out.1 h).2.2
      clear e3
      generalize decide (xp = yp) = D at *
      go_enter Tryd.func13, Tryd.ntmps13
      go_wp2_with (first
        | (go_at_call 21; refine (CV.out _ (HV.out _ HE.out).1 (HV.out _ HE.out).2).mono ?_; rintro e w' ⟨rfl, nq, rfl⟩)
        | (go_at_call 22; refine (CP.out _ (HP.out _ (HE.out.drewN _)).1 (HP.out _ (HE.out.drewN _)).2).mono ?_; rintro e w2 ⟨rfl, hE2⟩))
      go_ret
      exact ⟨ret_bool HT.out.symm, (HE.out.drewN _).ext hE2⟩
    · have HT := Lib.hid (HF.out fun h => of_decide_eq_false e2 (HQ.out.1 h).2.1)
      rw [e2] at CV
      clear e2 e3
      go_enter Tryd.func13, Tryd.ntmps13
      go_wp2_with (go_at_call 21; refine (CV.out _ (HV.out _ HE.out).1 (HV.out _ HE.out).2).mono ?_; rintro e w' ⟨rfl, nq, rfl⟩)
      go_ret
      exact ⟨ret_bool HT.out.symm, HE.out.drewN _⟩
  · have HT := Lib.hid (HF.out fun h => e0 (HQ.out.1 h).1)
    obtain ⟨h0, h1⟩ := str_ne e0
    clear e0
    go_enter Tryd.func13, Tryd.ntmps13
    go_wp2_with fail
    go_ret
    exact ⟨ret_bool HT.out.symm, HE.out⟩
end face
end Go.Proofs.YtpcihajmcejliabDoor
