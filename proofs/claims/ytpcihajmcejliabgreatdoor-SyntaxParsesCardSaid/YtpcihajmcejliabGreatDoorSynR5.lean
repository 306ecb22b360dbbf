/- The reference's reader: what binds. -/
import Derived.Test.YtpcihajmcejliabGreatDoorSynR4
import Derived.Test.YtpcihajmcejliabGreatDoorSynRS
import Derived.Deep.CutBlock
import Derived.Deep.DeepCutAuto
import Derived.Deep.LoopGhost
namespace Go.Proofs.YtpcihajmcejliabGreatDoor
open Go.RowKit
namespace synr
open synw
theorem sgn_word : ∀ j : Fin signsL.length, wordB signsL[j].1.data.toList = false := by decide
theorem op_word {s : ByteArray} (h : wordB s.data.toList = true) : opOf s = (0, -1) := by
  refine op_miss fun j hj e => ?_
  have h3 := sgn_word ⟨j, hj⟩
  rw [← e] at h
  have h4 : wordB signsL[j].1.data.toList = false := h3
  rw [h4] at h
  cases h
/-- the sign here, as the one and as the other reads it -/
theorem sgn_iff {W w : World} {S : Nat} {l : List Tk} {b : Bool} (h : RdrAt W w S l b) (k : Nat) : ((kindOf l = 3 ∧ (opOf (textOf l)).2 = k) ↔ (opOf (textN l)).2 = k) ∧ ((opOf (textN l)).2 = k → opOf (textOf l) = opOf (textN l)) := by
  cases l with
  | nil =>
    have e : opOf (textN []) = (0, -1) := by decide
    rw [e]
    refine ⟨⟨fun h => absurd h.1 (by decide), fun h => ?_⟩, fun h => ?_⟩
    · have h2 : (-1 : Int) = k := h
      omega
    · have h2 : (-1 : Int) = k := h
      omega
  | cons t r =>
    have ho := rdr_ok h
    have hk := ho.kinds
    have ec : kindOf (t :: r) = t.kind := rfl
    have et : textOf (t :: r) = t.text := rfl
    rw [ec, et]
    by_cases h2 : t.kind = 2
    · have e : textN (t :: r) = ⟨#[]⟩ := if_pos h2
      have e2 : opOf (⟨#[]⟩ : ByteArray) = (0, -1) := by decide
      rw [e, e2]
      refine ⟨⟨fun h => by omega, fun h => ?_⟩, fun h => ?_⟩
      · have h2 : (-1 : Int) = k := h
        omega
      · have h2 : (-1 : Int) = k := h
        omega
    · have e : textN (t :: r) = t.text := if_neg h2
      rw [e]
      refine ⟨⟨fun h => h.2, fun h => ⟨?_, h⟩⟩, fun _ => rfl⟩
      by_cases h1 : t.kind = 1
      · rw [op_word (ho.word h1)] at h
        have h2 : (-1 : Int) = k := h
        omega
      · omega
/-- another node in the variable -/
theorem loc_put {S B N : Nat} {u : World} {x y : Nd} {v a b c d : Value} (h : synw.Loc S B N u x v) (hy : NdAt (hide (hidB B N) u) y (.agg #[a, b, c, d])) : synw.Loc S B N ((((u.setCell ⟨N, 0, none⟩ a).setCell ⟨N, 1, none⟩ b).setCell ⟨N, 2, none⟩ c).setCell ⟨N, 3, none⟩ d) y (.agg #[a, b, c, d]) := by
  have hC : Chg (fun i => i = N) u ((((u.setCell ⟨N, 0, none⟩ a).setCell ⟨N, 1, none⟩ b).setCell ⟨N, 2, none⟩ c).setCell ⟨N, 3, none⟩ d) := chg_set (chg_set (chg_set (chg_set (Chg.refl _ _) 0 a) 1 b) 2 c) 3 d
  refine ⟨?_, ndAt_keeps (keeps_chg hC fun i _ e => by rw [e]; simp [hidB]) _ _ hy, h.hSB, h.hSN⟩
  have h5 := (((h.nd.set 0 a).set 1 b).set 2 c).set 3 d
  have e : (((v.cells.setIfInBounds 0 a).setIfInBounds 1 b).setIfInBounds 2 c).setIfInBounds 3 d = (Value.agg #[a, b, c, d]).cells := by
    obtain ⟨a', b', c', d', -, e', -⟩ := nd_cells h.dat
    rw [e']; rfl
  rw [e] at h5
  exact h5
set_option maxRecDepth 100000 in
set_option maxHeartbeats 4000000 in
theorem bound_step {b0 g0 : Bool} {n : Nat} {k : Nat} (dU : RC b0 false n .unary) (dB : RC b0 false n (.bound (k + 1))) (dG : ∀ m, m ≤ n → RC b0 true m (.bound (k + 1))) {W w : World} {S : Nat} {l : List Tk} {b : Bool} (h : RdrAt W w S l b) (hb : b0 = true → b = true) (_hg : g0 = true → b = false) (hk : k ≤ 3) (hne : stO b l (prs (n + 1) (.bound k) l) ≠ .out) :
    Calls Tryz.prog 290 #[.pointer (some ⟨S, 0, none⟩), .int .i64 (k : Nat)] w (Rst (VN w.heap.size) W w S (stO b l (prs (n + 1) (.bound k) l))) := by
  obtain ⟨T, hT⟩ : ∃ T, stO b l (prs (n + 1) (.bound k) l) = T := ⟨_, rfl⟩
  rw [hT] at hne ⊢
  simp only [prs] at hT
  have HT := Lib.hid hT
  have HNE := Lib.hid hne
  have HBD := Lib.hid hb
  have HAT : Hid (RAt W w (w.alloc (.cells #[.int .i64 0, .string ⟨#[]⟩, .int .i64 0, .slice none 0 0] 66)) S w.heap.size l b) := Lib.hid (RAt.start h)
  obtain ⟨A, hA⟩ : ∃ A, w.heap.size = A := ⟨_, rfl⟩
  rw [hA] at HAT
  have hSA : S < A := by have := h.lt; omega
  clear h hb _hg hne hT
  go_enter Tryz.func290, Tryz.ntmps290
  go_upto_region 1 with (fail)
  generalize w.alloc (.cells #[.int .i64 0, .string ⟨#[]⟩, .int .i64 0, .slice none 0 0] 66) = u0 at *
  by_cases hk2 : 2 < k
  · have HT0 := HT.out
    clear HT
    simp only [hk2, ↓reduceIte] at HT0
    have HT := Lib.hid HT0
    clear HT0
    obtain rfl : k = 3 := by omega
    have HAT0 := HAT.out.lt
    obtain ⟨B, hB⟩ : ∃ B, u0.heap.size = B := ⟨_, rfl⟩
    rw [hB] at HAT0
    have HN := Lib.hid (dU _ _ HAT.out.pr (by first | exact HBD.out | exact fun _ => rfl | (intro e; have := HBD.out; simp_all)) (fun e => by cases e) rfl trivial (by rw [HT.out]; exact HNE.out))
    go_wp2_with fail
    refine HN.out.mono ?_
    rintro e u1 ⟨hC, x1, v1, l1, b1, rfl, hv, hP, hrel⟩
    replace HT := Lib.hid (now_tail HT.out HNE.out hrel)
    replace HBD := Lib.hid (rel_bad (b0 := b0) hrel (by first | exact HBD.out | exact fun _ => rfl | (intro e; have := HBD.out; simp_all)))
    replace HAT := Lib.hid (HAT.out.call hC hP)
    obtain ⟨ka1, ta1, ma1, aa1, na1, ca1, rfl⟩ := nd_form hv
    have HV1 := Lib.hid hv
    have hsz1 : u0.heap.size ≤ u1.heap.size := hC.size
    clear hC hP hrel hv HN
    rw [hB] at HV1
    have r0 := HAT.out.res.cell
    have rf := HAT.out.res.frozen
    have rl := HAT.out.res.lt
    unfold zeroNd at r0
    go_wp2_with fail
    refine ends_at rfl rfl rfl ((((HAT.out.res.set 0 _).set 1 _).set 2 _).set 3 _) Tryz.underlying66 rfl (by kernel_rfl) ?_
    first | exact ret_value HAT.out (below B) (HV1.out) (below_yes (by omega)) (fun i hi => below_yes (by omega)) HT.out | (subst hA; exact ret_value HAT.out (below B) (HV1.out) (below_yes (by omega)) (fun i hi => below_yes (by omega)) HT.out)
  · have HT0 := HT.out
    clear HT
    simp only [hk2, ↓reduceIte] at HT0
    have HT := Lib.hid HT0
    clear HT0
    have hk3 : ¬ ((k : Int) > 2) := by omega
    have hk4 : ¬ (2 < (k : Int)) := by omega
    have hkw : IntKind.i64.wrap ((k : Int) + 1) = ((k + 1 : Nat) : Int) := by rw [wrap_small _ (by omega) (by omega)]; rfl
    have hkw2 : wrap64 ((k : Int) + 1) = ((k + 1 : Nat) : Int) := by unfold wrap64; omega
    have HAT0 := HAT.out.lt
    obtain ⟨B, hB⟩ : ∃ B, u0.heap.size = B := ⟨_, rfl⟩
    rw [hB] at HAT0
    have HN := Lib.hid (dB _ _ HAT.out.pr (by first | exact HBD.out | exact fun _ => rfl | (intro e; have := HBD.out; simp_all)) (fun e => by cases e) rfl (show k + 1 ≤ 3 by omega) (now_ne HT.out HNE.out))
    go_wp2_with fail
    refine HN.out.mono ?_
    rintro e u2 ⟨hC, x2, v2, l2, b2, rfl, hv, hP, hrel⟩
    replace HT := Lib.hid (now_bind HT.out HNE.out hrel)
    replace HBD := Lib.hid (rel_bad (b0 := b0) hrel (by first | exact HBD.out | exact fun _ => rfl | (intro e; have := HBD.out; simp_all)))
    replace HAT := Lib.hid (HAT.out.call hC hP)
    obtain ⟨ka2, ta2, ma2, aa2, na2, ca2, rfl⟩ := nd_form hv
    have HV2 := Lib.hid hv
    have hsz2 : u0.heap.size ≤ u2.heap.size := hC.size
    clear hC hP hrel hv HN
    rw [hB] at HV2 hsz2
    have HL := Lib.hid (Loc.start HV2.out (by omega : S < B) hsz2 (c := #[.int .i64 ka2, .string ta2, .int .i64 ma2, .slice aa2 na2 ca2]) rfl)
    replace HAT := Lib.hid (HAT.out.alloc (.cells #[.int .i64 ka2, .string ta2, .int .i64 ma2, .slice aa2 na2 ca2] 66))
    obtain ⟨N, hN⟩ : ∃ N, u2.heap.size = N := ⟨_, rfl⟩
    have hBN : B ≤ N := hN ▸ hsz2
    rw [hN] at HL
    go_wp2_with fail
    generalize u2.alloc (.cells #[.int .i64 ka2, .string ta2, .int .i64 ma2, .slice aa2 na2 ca2] 66) = v0 at *
    have HLl := HL.out.nd.lt
    go_loopg [] n (fun kk wr => ∃ l2 b2 x v, kk ≤ n ∧ B ≤ wr.heap.size ∧ Hid (b0 = true → b2 = true) ∧ Hid (stO b2 l2 (prs kk (.loop k x) l2) = T) ∧ Hid (RAt W w wr S A l2 b2) ∧ Hid (synw.Loc S B N wr x v))
    case atStart => exact ⟨l2, b2, x2, Value.agg #[.int .i64 ka2, .string ta2, .int .i64 ma2, .slice aa2 na2 ca2], Nat.le_refl _, by omega, HBD, HT, HAT, HL⟩
    clear HT HAT HL HBD HV2
    case round =>
      obtain ⟨lr, br, xd, vd, hkn, hBr, HBD, HT, HAT, HL⟩ := hrel
      obtain ⟨kx, tx, mx, ax, nx, cx, rfl⟩ := nd_form HL.out.dat
      obtain ⟨ra_, rn_, rc_, rk_, hbk, -, -⟩ := rdr_blk HAT.out.pr
      have c2 := hbk.cell 2
      simp at c2
      clear hbk
      cases br with
      | false =>
        cases gk with
        | zero => exact absurd HT.out.symm HNE.out
        | succ m =>
          obtain ⟨hs1, hs2⟩ := sgn_iff HAT.out.pr k
          have HT0 := HT.out
          clear HT
          simp only [prs] at HT0
          simp only [propext hs1] at HT0
          have HT := Lib.hid HT0
          clear HT0 hs1
          have HN := Lib.hid (text_any HAT.out.pr)
          go_wp2_with fail
          refine HN.out.mono ?_
          rintro e u5 ⟨rfl, hE⟩
          replace HAT := Lib.hid (HAT.out.extend hE)
          replace HL := Lib.hid (HL.out.extend hE)
          have hB5 := Nat.le_trans hBr hE.size
          clear hE HN c2
          simp only [Bool.false_eq_true, ↓reduceIte]
          have HOP := Lib.hid (sign_any (textN lr))
          generalize hoo : opOf (textN lr) = oo at *
          generalize textN lr = tx5 at *
          obtain ⟨op, lv⟩ := oo
          simp only at HT HOP hs2
          go_wp2_with fail
          refine (HOP.out _).mono ?_
          rintro e u6 ⟨rfl, hE⟩
          replace HAT := Lib.hid (HAT.out.extend hE)
          replace HL := Lib.hid (HL.out.extend hE)
          have hB6 := Nat.le_trans hB5 hE.size
          clear hE HOP
          by_cases hlv : lv = (k : Int)
          · have hlv2 : (lv != (k : Int)) = false := by simp [hlv]
            have hop : (opOf (textOf lr)) = (op, lv) := hs2 hlv
            have HT0 := HT.out
            clear HT
            simp only [hlv, ↓reduceIte, hop] at HT0
            have HT := Lib.hid HT0
            clear HT0 hs2
            obtain ⟨t0, r0, rfl⟩ : ∃ t r, lr = t :: r := by cases lr with | nil => (have e : opOf (textOf []) = (0, -1) := by decide); rw [e] at hop; injection hop with _ h2; omega | cons t r => exact ⟨t, r, rfl⟩
            clear hop
            obtain ⟨kc, hkc, hkc2, hP2⟩ := rdr_step HAT.out.pr
            obtain ⟨a', n', c', k', hBk, -, -⟩ := rdr_blk HAT.out.pr
            have hf := hBk.frozen 1
            have hSl := hBk.lt
            have hkcw : IntKind.i64.wrap ((kc : Int) + 1) = (kc : Int) + 1 := wrap_small _ (by omega) (by omega)
            replace HL := Lib.hid (HL.out.call (chg_set (Chg.refl _ _) 1 (.int .i64 ((kc : Int) + 1))))
            replace HAT := Lib.hid (HAT.out.call (chg_set (Chg.refl _ _) 1 (.int .i64 ((kc : Int) + 1))) hP2)
            clear hP2 hBk
            go_upto_region 8 with (fail)
            clear hkc hf hSl
            have hB7 : B ≤ (u6.setCell ⟨S, 1, none⟩ (.int .i64 ((kc : Int) + 1))).heap.size := by simpa using hB6
            generalize u6.setCell ⟨S, 1, none⟩ (.int .i64 ((kc : Int) + 1)) = u8 at *
            replace HT := Lib.hid (show stO false r0 _ = T from HT.out)
            have HLl := HL.out.nd.lt
            have HN := Lib.hid ((dG m (by omega)) _ _ HAT.out.pr (by first | exact HBD.out | exact fun _ => rfl | (intro e; have := HBD.out; simp_all)) (fun _ => rfl) rfl (show k + 1 ≤ 3 by omega) (now_ne HT.out HNE.out))
            go_wp2_with fail
            refine HN.out.mono ?_
            rintro e u21 ⟨hC, x21, v21, l21, b21, rfl, hv, hP, hrel⟩
            replace HT := Lib.hid (now_bind HT.out HNE.out hrel)
            replace HBD := Lib.hid (rel_bad (b0 := b0) hrel (by first | exact HBD.out | exact fun _ => rfl | (intro e; have := HBD.out; simp_all)))
            replace HAT := Lib.hid (HAT.out.call hC hP)
            replace HL := Lib.hid (HL.out.call hC)
            obtain ⟨ka21, ta21, ma21, aa21, na21, ca21, rfl⟩ := nd_form hv
            have HV21 := Lib.hid hv
            have hsz21 : u8.heap.size ≤ u21.heap.size := hC.size
            clear hC hP hrel hv HN
            have hB9 := Nat.le_trans hB7 hsz21
            have HY : Hid (NdAt (hide (hidB B N) u21) x21 (.agg #[.int .i64 ka21, .string ta21, .int .i64 ma21, .slice aa21 na21 ca21])) := Lib.hid (ndAt_keeps (keeps_hide (Nat.le_refl _) fun i hi hm => by
              simp only [below, hidB, decide_eq_false_iff_not, Bool.or_eq_false_iff] at hm ⊢
              exact ⟨⟨by omega, by omega⟩, trivial⟩) _ _ HV21.out)
            clear HV21
            have HO := Lib.hid (Blk.made u21 #[.int .i64 ka21, .string ta21, .int .i64 ma21, .slice aa21 na21 ca21] 66)
            have hEx := (Chg.refl (fun _ => False) u21).alloc (.cells #[.int .i64 ka21, .string ta21, .int .i64 ma21, .slice aa21 na21 ca21] 66)
            replace HY := Lib.hid (ndAt_keeps (keeps_chg hEx fun _ _ h => h.elim) _ _ HY.out)
            replace HAT := Lib.hid (HAT.out.extend hEx)
            replace HL := Lib.hid (HL.out.extend hEx)
            have hB10 := Nat.le_trans hB9 hEx.size
            clear hEx
            obtain ⟨O, hO⟩ : ∃ O, u21.heap.size = O := ⟨_, rfl⟩
            rw [hO] at HO
            go_upto_region 9 with (fail)
            generalize u21.alloc (.cells #[.int .i64 ka21, .string ta21, .int .i64 ma21, .slice aa21 na21 ca21] 66) = u9 at *
            have HLl9 := HL.out.nd.lt
            have o0 := HO.out.cell
            have hc := HL.out.nd.cell
            have hcf := HL.out.nd.frozen
            simp only [Value.cells] at hc
            have HR := Lib.hid (nd_row2 HL.out.dat HY.out (by simp [hidB]; omega) 19 op noText (by decide) (c := #[.int .i64 kx, .string tx, .int .i64 mx, .slice ax nx cx, .int .i64 ka21, .string ta21, .int .i64 ma21, .slice aa21 na21 ca21]) rfl)
            have hEx := (Chg.refl (fun _ => False) u9).alloc (.cells #[.int .i64 kx, .string tx, .int .i64 mx, .slice ax nx cx, .int .i64 ka21, .string ta21, .int .i64 ma21, .slice aa21 na21 ca21] 66)
            replace HAT := Lib.hid (HAT.out.extend hEx)
            replace HL := Lib.hid (HL.out.extend hEx)
            have hB11 := Nat.le_trans hB10 hEx.size
            have hAN : A < N := by omega
            have hsw : (((((u9.alloc (.cells #[.int .i64 kx, .string tx, .int .i64 mx, .slice ax nx cx, .int .i64 ka21, .string ta21, .int .i64 ma21, .slice aa21 na21 ca21] 66)).setCell ⟨N, 0, none⟩ (.int .i64 19)).setCell ⟨N, 1, none⟩ (.string ⟨#[]⟩)).setCell ⟨N, 2, none⟩ (.int .i64 op)).setCell ⟨N, 3, none⟩ (.slice (some ⟨u9.heap.size, 0, none⟩) 2 2)) = (((((u9.setCell ⟨N, 0, none⟩ (.int .i64 19)).setCell ⟨N, 1, none⟩ (.string ⟨#[]⟩)).setCell ⟨N, 2, none⟩ (.int .i64 op)).setCell ⟨N, 3, none⟩ (.slice (some ⟨u9.heap.size, 0, none⟩) 2 2)).alloc (.cells #[.int .i64 kx, .string tx, .int .i64 mx, .slice ax nx cx, .int .i64 ka21, .string ta21, .int .i64 ma21, .slice aa21 na21 ca21] 66)) := by
              rw [World.setCell_alloc_past _ _ _ _ HLl9, World.setCell_alloc_past _ _ _ _ (by simpa using HLl9), World.setCell_alloc_past _ _ _ _ (by simpa using HLl9), World.setCell_alloc_past _ _ _ _ (by simpa using HLl9)]
            have hCN := chg_set (S := N) (chg_set (chg_set (chg_set (Chg.refl _ (u9.alloc (.cells #[.int .i64 kx, .string tx, .int .i64 mx, .slice ax nx cx, .int .i64 ka21, .string ta21, .int .i64 ma21, .slice aa21 na21 ca21] 66))) 0 (.int .i64 19)) 1 (.string ⟨#[]⟩)) 2 (.int .i64 op)) 3 (.slice (some ⟨u9.heap.size, 0, none⟩) 2 2)
            have HL2 : Hid (synw.Loc S B N (((((u9.setCell ⟨N, 0, none⟩ (.int .i64 19)).setCell ⟨N, 1, none⟩ (.string ⟨#[]⟩)).setCell ⟨N, 2, none⟩ (.int .i64 op)).setCell ⟨N, 3, none⟩ (.slice (some ⟨u9.heap.size, 0, none⟩) 2 2)).alloc (.cells #[.int .i64 kx, .string tx, .int .i64 mx, .slice ax nx cx, .int .i64 ka21, .string ta21, .int .i64 ma21, .slice aa21 na21 ca21] 66)) (.mk 19 noText op [xd, x21]) (.agg #[.int .i64 19, .string ⟨#[]⟩, .int .i64 op, .slice (some ⟨u9.heap.size, 0, none⟩) 2 2])) := Lib.hid (by rw [← hsw]; exact loc_put HL.out HR.out)
            have HAT2 : Hid (RAt W w (((((u9.setCell ⟨N, 0, none⟩ (.int .i64 19)).setCell ⟨N, 1, none⟩ (.string ⟨#[]⟩)).setCell ⟨N, 2, none⟩ (.int .i64 op)).setCell ⟨N, 3, none⟩ (.slice (some ⟨u9.heap.size, 0, none⟩) 2 2)).alloc (.cells #[.int .i64 kx, .string tx, .int .i64 mx, .slice ax nx cx, .int .i64 ka21, .string ta21, .int .i64 ma21, .slice aa21 na21 ca21] 66)) S A l21 b21) := Lib.hid (by rw [← hsw]; exact HAT.out.far hCN (fun i e => by omega))
            have hB12 : B ≤ (((((u9.setCell ⟨N, 0, none⟩ (.int .i64 19)).setCell ⟨N, 1, none⟩ (.string ⟨#[]⟩)).setCell ⟨N, 2, none⟩ (.int .i64 op)).setCell ⟨N, 3, none⟩ (.slice (some ⟨u9.heap.size, 0, none⟩) 2 2)).alloc (.cells #[.int .i64 kx, .string tx, .int .i64 mx, .slice ax nx cx, .int .i64 ka21, .string ta21, .int .i64 ma21, .slice aa21 na21 ca21] 66)).heap.size := by rw [← hsw]; exact Nat.le_trans hB11 hCN.size
            clear HAT hCN hEx HL HY HR HO hsw hB11 hB10
            have HAT := HAT2
            clear HAT2
            go_upto_region 10 with (fail)
            generalize (((((u9.setCell ⟨N, 0, none⟩ (.int .i64 19)).setCell ⟨N, 1, none⟩ (.string ⟨#[]⟩)).setCell ⟨N, 2, none⟩ (.int .i64 op)).setCell ⟨N, 3, none⟩ (.slice (some ⟨u9.heap.size, 0, none⟩) 2 2)).alloc (.cells #[.int .i64 kx, .string tx, .int .i64 mx, .slice ax nx cx, .int .i64 ka21, .string ta21, .int .i64 ma21, .slice aa21 na21 ca21] 66)) = w9 at *
            clear hc hcf o0 HLl9
            by_cases hk0 : k = 0
            · subst hk0
              have HT0 := HT.out
              clear HT
              simp only [↓reduceIte] at HT0
              have HT := Lib.hid HT0
              clear HT0
              have HL := HL2
              have hc := HL.out.nd.cell
              simp only [Value.cells] at hc
              have r0 := HAT.out.res.cell
              have rf := HAT.out.res.frozen
              have rl := HAT.out.res.lt
              unfold zeroNd at r0
              go_wp2_with fail
              refine ends_at rfl rfl rfl ((((HAT.out.res.set 0 _).set 1 _).set 2 _).set 3 _) Tryz.underlying66 rfl (by kernel_rfl) ?_
              first | exact ret_value HAT.out (hidB B N) (HL.out.dat) (hidB_yes (by omega)) (fun i hi => hidB_yes (by omega)) HT.out | (subst hA; exact ret_value HAT.out (hidB B N) (HL.out.dat) (hidB_yes (by omega)) (fun i hi => hidB_yes (by omega)) HT.out)
            · have hk5 : ((k : Int) == 0) = false := by simp; omega
              have HT0 := HT.out
              clear HT
              simp only [hk0, ↓reduceIte] at HT0
              have HT := Lib.hid HT0
              clear HT0
              go_wp2_with fail
              go_roundg m
              case rel => exact ⟨l21, b21, _, _, by omega, hB12, HBD, HT, HAT, HL2⟩
              case measure => omega
          · have hlv2 : (lv != (k : Int)) = true := by simpa using hlv
            have HT0 := HT.out
            clear HT
            simp only [hlv, ↓reduceIte] at HT0
            have HT := Lib.hid HT0
            clear HT0
            have hc := HL.out.nd.cell
            simp only [Value.cells] at hc
            have r0 := HAT.out.res.cell
            have rf := HAT.out.res.frozen
            have rl := HAT.out.res.lt
            unfold zeroNd at r0
            go_wp2_with fail
            refine ends_at rfl rfl rfl ((((HAT.out.res.set 0 _).set 1 _).set 2 _).set 3 _) Tryz.underlying66 rfl (by kernel_rfl) ?_
            first | exact ret_value HAT.out (hidB B N) (HL.out.dat) (hidB_yes (by omega)) (fun i hi => hidB_yes (by omega)) HT.out | (subst hA; exact ret_value HAT.out (hidB B N) (HL.out.dat) (hidB_yes (by omega)) (fun i hi => hidB_yes (by omega)) HT.out)
      | true =>
        replace HT := Lib.hid (bad_any (q := .got xd lr) HT.out)
        have hc := HL.out.nd.cell
        simp only [Value.cells] at hc
        have r0 := HAT.out.res.cell
        have rf := HAT.out.res.frozen
        have rl := HAT.out.res.lt
        unfold zeroNd at r0
        go_wp2_with fail
        refine ends_at rfl rfl rfl ((((HAT.out.res.set 0 _).set 1 _).set 2 _).set 3 _) Tryz.underlying66 rfl (by kernel_rfl) ?_
        first | exact ret_value HAT.out (hidB B N) (HL.out.dat) (hidB_yes (by omega)) (fun i hi => hidB_yes (by omega)) HT.out | (subst hA; exact ret_value HAT.out (hidB B N) (HL.out.dat) (hidB_yes (by omega)) (fun i hi => hidB_yes (by omega)) HT.out)
end synr
end Go.Proofs.YtpcihajmcejliabGreatDoor
