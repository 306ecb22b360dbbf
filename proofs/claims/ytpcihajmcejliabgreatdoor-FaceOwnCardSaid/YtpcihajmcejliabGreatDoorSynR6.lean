/- The reference's reader: what binds. The reference's reader: a node that is being built; calls, blocks. -/
import Derived.Deep.CutBlock
import Derived.Deep.DeepCutAuto
import Derived.Deep.LoopGhost
import Derived.Deep.AppendLies
import Derived.Test.YtpcihajmcejliabGreatDoorSynRS
namespace Go.Proofs.YtpcihajmcejliabGreatDoor
open Go.RowKit
namespace synr
open synw
theorem sgn_word : ∀ j : Fin signsL.length, wordB signsL[j].1.data.toList = false := by decide
theorem op_word {s : ByteArray} (h : wordB s.data.toList = true) : opOf s = (0, -1) := by
 refine op_miss fun j hj e => ?_
 have h3 := sgn_word ⟨j, hj⟩; rw [← e] at h; have h4 : wordB signsL[j].1.data.toList = false := h3; rw [h4] at h; cases h
theorem sgn_iff {W w : World} {S : Nat} {l : List Tk} {b : Bool} (h : RdrAt W w S l b) (k : Nat) : ((kindOf l = 3 ∧ (opOf (textOf l)).2 = k) ↔ (opOf (textN l)).2 = k) ∧ ((opOf (textN l)).2 = k → opOf (textOf l) = opOf (textN l)) := by
 cases l with
 | nil =>
  have e : opOf (textN []) = (0, -1) := by decide
  rw [e]; refine ⟨⟨fun h => absurd h.1 (by decide), fun h => ?_⟩, fun h => ?_⟩
  ·have h2 : (-1 : Int) = k := h
   omega
  ·have h2 : (-1 : Int) = k := h
   omega
 | cons t r =>
  have ho := rdr_ok h; have hk := ho.kinds; have ec : kindOf (t :: r) = t.kind := rfl; have et : textOf (t :: r) = t.text := rfl; rw [ec, et]; by_cases h2 : t.kind = 2
  ·have e : textN (t :: r) = ⟨#[]⟩ := if_pos h2
   have e2 : opOf (⟨#[]⟩ : ByteArray) = (0, -1) := by decide
   rw [e, e2]; refine ⟨⟨fun h => by omega, fun h => ?_⟩, fun h => ?_⟩
   ·have h2 : (-1 : Int) = k := h
    omega
   ·have h2 : (-1 : Int) = k := h
    omega
  ·have e : textN (t :: r) = t.text := if_neg h2
   rw [e]; refine ⟨⟨fun h => h.2, fun h => ⟨?_, h⟩⟩, fun _ => rfl⟩
   by_cases h1 : t.kind = 1
   ·rw [op_word (ho.word h1)] at h
    have h2 : (-1 : Int) = k := h; omega
   ·omega
theorem loc_put {S B N : Nat} {u : World} {x y : Nd} {v a b c d : Value} (h : synw.Loc S B N u x v) (hy : NdAt (hide (hidB B N) u) y (.agg #[a, b, c, d])) : synw.Loc S B N ((((u.setCell ⟨N, 0, none⟩ a).setCell ⟨N, 1, none⟩ b).setCell ⟨N, 2, none⟩ c).setCell ⟨N, 3, none⟩ d) y (.agg #[a, b, c, d]) := by
 have hC : Chg (fun i => i = N) u ((((u.setCell ⟨N, 0, none⟩ a).setCell ⟨N, 1, none⟩ b).setCell ⟨N, 2, none⟩ c).setCell ⟨N, 3, none⟩ d) := chg_set (chg_set (chg_set (chg_set (Chg.refl _ _) 0 a) 1 b) 2 c) 3 d; refine ⟨?_, ndAt_keeps (keeps_chg hC fun i _ e => by rw [e]; simp [hidB]) _ _ hy, h.hSB, h.hSN⟩
 have h5 := (((h.nd.set 0 a).set 1 b).set 2 c).set 3 d
 have e : (((v.cells.setIfInBounds 0 a).setIfInBounds 1 b).setIfInBounds 2 c).setIfInBounds 3 d = (Value.agg #[a, b, c, d]).cells := by
  obtain ⟨a', b', c', d', -, e', -⟩ := nd_cells h.dat; rw [e']; rfl
 rw [e] at h5; exact h5
set_option maxRecDepth 100000 in
set_option maxHeartbeats 4000000 in
theorem bound_step {b0 g0 : Bool} {n : Nat} {k : Nat} (dU : RC b0 false n .unary) (dB : RC b0 false n (.bound (k + 1))) (dG : ∀ m, m ≤ n → RC b0 true m (.bound (k + 1))) {W w : World} {S : Nat} {l : List Tk} {b : Bool} (h : RdrAt W w S l b) (hb : b0 = true → b = true) (_hg : g0 = true → b = false) (hk : k ≤ 3) (hne : stO b l (prs (n + 1) (.bound k) l) ≠ .out) :
  Calls Tryz.prog 290 #[.pointer (some ⟨S, 0, none⟩), .int .i64 (k : Nat)] w (Rst (VN w.heap.size) W w S (stO b l (prs (n + 1) (.bound k) l))) := by
 obtain ⟨T, hT⟩ : ∃ T, stO b l (prs (n + 1) (.bound k) l) = T := ⟨_, rfl⟩; rw [hT] at hne ⊢; simp only [prs] at hT; have HT := Z_ hT; have HNE := Z_ hne; have HBD := Z_ hb; have HAT : Hid (RAt W w (w.alloc (.cells #[.int .i64 0, .string ⟨#[]⟩, .int .i64 0, .slice none 0 0] 66)) S w.heap.size l b) := Z_ (RAt.start h); obtain ⟨A, hA⟩ : ∃ A, w.heap.size = A := ⟨_, rfl⟩; rw [hA] at HAT; have hSA : S < A := by have := h.lt; omega
 clear h hb _hg hne hT; go_enter Tryz.func290, Tryz.ntmps290
 go_upto_region 1 with (fail)
 generalize w.alloc (.cells #[.int .i64 0, .string ⟨#[]⟩, .int .i64 0, .slice none 0 0] 66) = u0 at *; by_cases hk2 : 2 < k
 ·have HT0 := HT.out
  clear HT; simp only [hk2, ↓reduceIte] at HT0; have HT := Z_ HT0; clear HT0; obtain rfl : k = 3 := by omega
  have HAT0 := HAT.out.lt; obtain ⟨B, hB⟩ : ∃ B, u0.heap.size = B := ⟨_, rfl⟩; rw [hB] at HAT0; have HN := Z_ (dU _ _ HAT.out.pr (by first | exact HBD.out | exact fun _ => rfl | (intro e; have := HBD.out; simp_all)) (fun e => by cases e) rfl trivial (by rw [HT.out]; exact HNE.out)); go_wp2_with fail
  refine HN.out.mono ?_
  rintro e u1 ⟨hC, x1, v1, l1, b1, rfl, hv, hP, hrel⟩; replace HT := Z_ (now_tail HT.out HNE.out hrel); replace HBD := Z_ (rel_bad (b0 := b0) hrel (by first | exact HBD.out | exact fun _ => rfl | (intro e; have := HBD.out; simp_all))); replace HAT := Z_ (HAT.out.call hC hP); obtain ⟨ka1, ta1, ma1, aa1, na1, ca1, rfl⟩ := nd_form hv; have HV1 := Z_ hv; have hsz1 : u0.heap.size ≤ u1.heap.size := hC.size; clear hC hP hrel hv HN; rw [hB] at HV1; have r0 := HAT.out.res.cell; have rf := HAT.out.res.frozen; have rl := HAT.out.res.lt; unfold zeroNd at r0; go_wp2_with fail
  refine ends_at rfl rfl rfl ((((HAT.out.res.set 0 _).set 1 _).set 2 _).set 3 _) Tryz.underlying66 rfl (by kernel_rfl) ?_
  first | exact ret_value HAT.out (below B) (HV1.out) (below_yes (by omega)) (fun i hi => below_yes (by omega)) HT.out | (subst hA; exact ret_value HAT.out (below B) (HV1.out) (below_yes (by omega)) (fun i hi => below_yes (by omega)) HT.out)
 ·have HT0 := HT.out
  clear HT; simp only [hk2, ↓reduceIte] at HT0; have HT := Z_ HT0; clear HT0; have hk3 : ¬ ((k : Int) > 2) := by omega
  have hk4 : ¬ (2 < (k : Int)) := by omega
  have hkw : IntKind.i64.wrap ((k : Int) + 1) = ((k + 1 : Nat) : Int) := by rw [wrap_small _ (by omega) (by omega)]; rfl
  have hkw2 : wrap64 ((k : Int) + 1) = ((k + 1 : Nat) : Int) := by unfold wrap64; omega
  have HAT0 := HAT.out.lt; obtain ⟨B, hB⟩ : ∃ B, u0.heap.size = B := ⟨_, rfl⟩; rw [hB] at HAT0; have HN := Z_ (dB _ _ HAT.out.pr (by first | exact HBD.out | exact fun _ => rfl | (intro e; have := HBD.out; simp_all)) (fun e => by cases e) rfl (show k + 1 ≤ 3 by omega) (now_ne HT.out HNE.out)); go_wp2_with fail
  refine HN.out.mono ?_
  rintro e u2 ⟨hC, x2, v2, l2, b2, rfl, hv, hP, hrel⟩; replace HT := Z_ (now_bind HT.out HNE.out hrel); replace HBD := Z_ (rel_bad (b0 := b0) hrel (by first | exact HBD.out | exact fun _ => rfl | (intro e; have := HBD.out; simp_all))); replace HAT := Z_ (HAT.out.call hC hP); obtain ⟨ka2, ta2, ma2, aa2, na2, ca2, rfl⟩ := nd_form hv; have HV2 := Z_ hv; have hsz2 : u0.heap.size ≤ u2.heap.size := hC.size; clear hC hP hrel hv HN; rw [hB] at HV2 hsz2; have HL := Z_ (Loc.start HV2.out (by omega : S < B) hsz2 (c := #[.int .i64 ka2, .string ta2, .int .i64 ma2, .slice aa2 na2 ca2]) rfl); replace HAT := Z_ (HAT.out.alloc (.cells #[.int .i64 ka2, .string ta2, .int .i64 ma2, .slice aa2 na2 ca2] 66)); obtain ⟨N, hN⟩ : ∃ N, u2.heap.size = N := ⟨_, rfl⟩; have hBN : B ≤ N := hN ▸ hsz2
  rw [hN] at HL; go_wp2_with fail
  generalize u2.alloc (.cells #[.int .i64 ka2, .string ta2, .int .i64 ma2, .slice aa2 na2 ca2] 66) = v0 at *; have HLl := HL.out.nd.lt; go_loopg [] n (fun kk wr => ∃ l2 b2 x v, kk ≤ n ∧ B ≤ wr.heap.size ∧ Hid (b0 = true → b2 = true) ∧ Hid (stO b2 l2 (prs kk (.loop k x) l2) = T) ∧ Hid (RAt W w wr S A l2 b2) ∧ Hid (synw.Loc S B N wr x v))
  case atStart => exact ⟨l2, b2, x2, Value.agg #[.int .i64 ka2, .string ta2, .int .i64 ma2, .slice aa2 na2 ca2], Nat.le_refl _, by omega, HBD, HT, HAT, HL⟩
  clear HT HAT HL HBD HV2
  case round =>
   obtain ⟨lr, br, xd, vd, hkn, hBr, HBD, HT, HAT, HL⟩ := hrel; obtain ⟨kx, tx, mx, ax, nx, cx, rfl⟩ := nd_form HL.out.dat; obtain ⟨ra_, rn_, rc_, rk_, hbk, -, -⟩ := rdr_blk HAT.out.pr; have c2 := hbk.cell 2; simp at c2
   clear hbk; cases br with
   | false =>
    cases gk with
    | zero => exact absurd HT.out.symm HNE.out
    | succ m =>
     obtain ⟨hs1, hs2⟩ := sgn_iff HAT.out.pr k; have HT0 := HT.out; clear HT; simp only [prs] at HT0; simp only [propext hs1] at HT0; have HT := Z_ HT0; clear HT0 hs1; have HN := Z_ (text_any HAT.out.pr); go_wp2_with fail
     refine HN.out.mono ?_
     rintro e u5 ⟨rfl, hE⟩; replace HAT := Z_ (HAT.out.extend hE); replace HL := Z_ (HL.out.extend hE); have hB5 := Nat.le_trans hBr hE.size; clear hE HN c2; simp only [Bool.false_eq_true, ↓reduceIte]; have HOP := Z_ (sign_any (textN lr)); generalize hoo : opOf (textN lr) = oo at *; generalize textN lr = tx5 at *; obtain ⟨op, lv⟩ := oo; simp only at HT HOP hs2; go_wp2_with fail
     refine (HOP.out _).mono ?_
     rintro e u6 ⟨rfl, hE⟩; replace HAT := Z_ (HAT.out.extend hE); replace HL := Z_ (HL.out.extend hE); have hB6 := Nat.le_trans hB5 hE.size; clear hE HOP; by_cases hlv : lv = (k : Int)
     ·have hlv2 : (lv != (k : Int)) = false := by simp [hlv]
      have hop : (opOf (textOf lr)) = (op, lv) := hs2 hlv; have HT0 := HT.out; clear HT; simp only [hlv, ↓reduceIte, hop] at HT0; have HT := Z_ HT0; clear HT0 hs2; obtain ⟨t0, r0, rfl⟩ : ∃ t r, lr = t :: r := by cases lr with | nil => (have e : opOf (textOf []) = (0, -1) := by decide); rw [e] at hop; injection hop with _ h2; omega | cons t r => exact ⟨t, r, rfl⟩
      clear hop; obtain ⟨kc, hkc, hkc2, hP2⟩ := rdr_step HAT.out.pr; obtain ⟨a', n', c', k', hBk, -, -⟩ := rdr_blk HAT.out.pr; have hf := hBk.frozen 1; have hSl := hBk.lt; have hkcw : IntKind.i64.wrap ((kc : Int) + 1) = (kc : Int) + 1 := wrap_small _ (by omega) (by omega); replace HL := Z_ (HL.out.call (chg_set (Chg.refl _ _) 1 (.int .i64 ((kc : Int) + 1)))); replace HAT := Z_ (HAT.out.call (chg_set (Chg.refl _ _) 1 (.int .i64 ((kc : Int) + 1))) hP2); clear hP2 hBk; go_upto_region 8 with (fail)
      clear hkc hf hSl; have hB7 : B ≤ (u6.setCell ⟨S, 1, none⟩ (.int .i64 ((kc : Int) + 1))).heap.size := by simpa using hB6
      generalize u6.setCell ⟨S, 1, none⟩ (.int .i64 ((kc : Int) + 1)) = u8 at *; replace HT := Z_ (show stO false r0 _ = T from HT.out); have HLl := HL.out.nd.lt; have HN := Z_ ((dG m (by omega)) _ _ HAT.out.pr (by first | exact HBD.out | exact fun _ => rfl | (intro e; have := HBD.out; simp_all)) (fun _ => rfl) rfl (show k + 1 ≤ 3 by omega) (now_ne HT.out HNE.out)); go_wp2_with fail
      refine HN.out.mono ?_
      rintro e u21 ⟨hC, x21, v21, l21, b21, rfl, hv, hP, hrel⟩; replace HT := Z_ (now_bind HT.out HNE.out hrel); replace HBD := Z_ (rel_bad (b0 := b0) hrel (by first | exact HBD.out | exact fun _ => rfl | (intro e; have := HBD.out; simp_all))); replace HAT := Z_ (HAT.out.call hC hP); replace HL := Z_ (HL.out.call hC); obtain ⟨ka21, ta21, ma21, aa21, na21, ca21, rfl⟩ := nd_form hv; have HV21 := Z_ hv; have hsz21 : u8.heap.size ≤ u21.heap.size := hC.size; clear hC hP hrel hv HN; have hB9 := Nat.le_trans hB7 hsz21
      have HY : Hid (NdAt (hide (hidB B N) u21) x21 (.agg #[.int .i64 ka21, .string ta21, .int .i64 ma21, .slice aa21 na21 ca21])) := Z_ (ndAt_keeps (keeps_hide (Nat.le_refl _) fun i hi hm => by
       simp only [below, hidB, decide_eq_false_iff_not, Bool.or_eq_false_iff] at hm ⊢; exact ⟨⟨by omega, by omega⟩, trivial⟩) _ _ HV21.out)
      clear HV21; have HO := Z_ (Blk.made u21 #[.int .i64 ka21, .string ta21, .int .i64 ma21, .slice aa21 na21 ca21] 66); have hEx := (Chg.refl (fun _ => False) u21).alloc (.cells #[.int .i64 ka21, .string ta21, .int .i64 ma21, .slice aa21 na21 ca21] 66); replace HY := Z_ (ndAt_keeps (keeps_chg hEx fun _ _ h => h.elim) _ _ HY.out); replace HAT := Z_ (HAT.out.extend hEx); replace HL := Z_ (HL.out.extend hEx); have hB10 := Nat.le_trans hB9 hEx.size; clear hEx; obtain ⟨O, hO⟩ : ∃ O, u21.heap.size = O := ⟨_, rfl⟩; rw [hO] at HO; go_upto_region 9 with (fail)
      generalize u21.alloc (.cells #[.int .i64 ka21, .string ta21, .int .i64 ma21, .slice aa21 na21 ca21] 66) = u9 at *; have HLl9 := HL.out.nd.lt; have o0 := HO.out.cell; have hc := HL.out.nd.cell; have hcf := HL.out.nd.frozen; simp only [Value.cells] at hc; have HR := Z_ (nd_row2 HL.out.dat HY.out (by simp [hidB]; omega) 19 op noText (by decide) (c := #[.int .i64 kx, .string tx, .int .i64 mx, .slice ax nx cx, .int .i64 ka21, .string ta21, .int .i64 ma21, .slice aa21 na21 ca21]) rfl); have hEx := (Chg.refl (fun _ => False) u9).alloc (.cells #[.int .i64 kx, .string tx, .int .i64 mx, .slice ax nx cx, .int .i64 ka21, .string ta21, .int .i64 ma21, .slice aa21 na21 ca21] 66); replace HAT := Z_ (HAT.out.extend hEx); replace HL := Z_ (HL.out.extend hEx); have hB11 := Nat.le_trans hB10 hEx.size; have hAN : A < N := by omega
      have hsw : (((((u9.alloc (.cells #[.int .i64 kx, .string tx, .int .i64 mx, .slice ax nx cx, .int .i64 ka21, .string ta21, .int .i64 ma21, .slice aa21 na21 ca21] 66)).setCell ⟨N, 0, none⟩ (.int .i64 19)).setCell ⟨N, 1, none⟩ (.string ⟨#[]⟩)).setCell ⟨N, 2, none⟩ (.int .i64 op)).setCell ⟨N, 3, none⟩ (.slice (some ⟨u9.heap.size, 0, none⟩) 2 2)) = (((((u9.setCell ⟨N, 0, none⟩ (.int .i64 19)).setCell ⟨N, 1, none⟩ (.string ⟨#[]⟩)).setCell ⟨N, 2, none⟩ (.int .i64 op)).setCell ⟨N, 3, none⟩ (.slice (some ⟨u9.heap.size, 0, none⟩) 2 2)).alloc (.cells #[.int .i64 kx, .string tx, .int .i64 mx, .slice ax nx cx, .int .i64 ka21, .string ta21, .int .i64 ma21, .slice aa21 na21 ca21] 66)) := by
       rw [World.setCell_alloc_past _ _ _ _ HLl9, World.setCell_alloc_past _ _ _ _ (by simpa using HLl9), World.setCell_alloc_past _ _ _ _ (by simpa using HLl9), World.setCell_alloc_past _ _ _ _ (by simpa using HLl9)]
      have hCN := chg_set (S := N) (chg_set (chg_set (chg_set (Chg.refl _ (u9.alloc (.cells #[.int .i64 kx, .string tx, .int .i64 mx, .slice ax nx cx, .int .i64 ka21, .string ta21, .int .i64 ma21, .slice aa21 na21 ca21] 66))) 0 (.int .i64 19)) 1 (.string ⟨#[]⟩)) 2 (.int .i64 op)) 3 (.slice (some ⟨u9.heap.size, 0, none⟩) 2 2); have HL2 : Hid (synw.Loc S B N (((((u9.setCell ⟨N, 0, none⟩ (.int .i64 19)).setCell ⟨N, 1, none⟩ (.string ⟨#[]⟩)).setCell ⟨N, 2, none⟩ (.int .i64 op)).setCell ⟨N, 3, none⟩ (.slice (some ⟨u9.heap.size, 0, none⟩) 2 2)).alloc (.cells #[.int .i64 kx, .string tx, .int .i64 mx, .slice ax nx cx, .int .i64 ka21, .string ta21, .int .i64 ma21, .slice aa21 na21 ca21] 66)) (.mk 19 noText op [xd, x21]) (.agg #[.int .i64 19, .string ⟨#[]⟩, .int .i64 op, .slice (some ⟨u9.heap.size, 0, none⟩) 2 2])) := Z_ (by rw [← hsw]; exact loc_put HL.out HR.out); have HAT2 : Hid (RAt W w (((((u9.setCell ⟨N, 0, none⟩ (.int .i64 19)).setCell ⟨N, 1, none⟩ (.string ⟨#[]⟩)).setCell ⟨N, 2, none⟩ (.int .i64 op)).setCell ⟨N, 3, none⟩ (.slice (some ⟨u9.heap.size, 0, none⟩) 2 2)).alloc (.cells #[.int .i64 kx, .string tx, .int .i64 mx, .slice ax nx cx, .int .i64 ka21, .string ta21, .int .i64 ma21, .slice aa21 na21 ca21] 66)) S A l21 b21) := Z_ (by rw [← hsw]; exact HAT.out.far hCN (fun i e => by omega))
      have hB12 : B ≤ (((((u9.setCell ⟨N, 0, none⟩ (.int .i64 19)).setCell ⟨N, 1, none⟩ (.string ⟨#[]⟩)).setCell ⟨N, 2, none⟩ (.int .i64 op)).setCell ⟨N, 3, none⟩ (.slice (some ⟨u9.heap.size, 0, none⟩) 2 2)).alloc (.cells #[.int .i64 kx, .string tx, .int .i64 mx, .slice ax nx cx, .int .i64 ka21, .string ta21, .int .i64 ma21, .slice aa21 na21 ca21] 66)).heap.size := by rw [← hsw]; exact Nat.le_trans hB11 hCN.size
      clear HAT hCN hEx HL HY HR HO hsw hB11 hB10; have HAT := HAT2; clear HAT2; go_upto_region 10 with (fail)
      generalize (((((u9.setCell ⟨N, 0, none⟩ (.int .i64 19)).setCell ⟨N, 1, none⟩ (.string ⟨#[]⟩)).setCell ⟨N, 2, none⟩ (.int .i64 op)).setCell ⟨N, 3, none⟩ (.slice (some ⟨u9.heap.size, 0, none⟩) 2 2)).alloc (.cells #[.int .i64 kx, .string tx, .int .i64 mx, .slice ax nx cx, .int .i64 ka21, .string ta21, .int .i64 ma21, .slice aa21 na21 ca21] 66)) = w9 at *; clear hc hcf o0 HLl9; by_cases hk0 : k = 0
      ·subst hk0
       have HT0 := HT.out; clear HT; simp only [↓reduceIte] at HT0; have HT := Z_ HT0; clear HT0; have HL := HL2; have hc := HL.out.nd.cell; simp only [Value.cells] at hc; have r0 := HAT.out.res.cell; have rf := HAT.out.res.frozen; have rl := HAT.out.res.lt; unfold zeroNd at r0; go_wp2_with fail
       refine ends_at rfl rfl rfl ((((HAT.out.res.set 0 _).set 1 _).set 2 _).set 3 _) Tryz.underlying66 rfl (by kernel_rfl) ?_
       first | exact ret_value HAT.out (hidB B N) (HL.out.dat) (hidB_yes (by omega)) (fun i hi => hidB_yes (by omega)) HT.out | (subst hA; exact ret_value HAT.out (hidB B N) (HL.out.dat) (hidB_yes (by omega)) (fun i hi => hidB_yes (by omega)) HT.out)
      ·have hk5 : ((k : Int) == 0) = false := by simp; omega
       have HT0 := HT.out; clear HT; simp only [hk0, ↓reduceIte] at HT0; have HT := Z_ HT0; clear HT0; go_wp2_with fail
       go_roundg m
       case rel => exact ⟨l21, b21, _, _, by omega, hB12, HBD, HT, HAT, HL2⟩
       case measure => omega
     ·have hlv2 : (lv != (k : Int)) = true := by simpa using hlv
      have HT0 := HT.out; clear HT; simp only [hlv, ↓reduceIte] at HT0; have HT := Z_ HT0; clear HT0; have hc := HL.out.nd.cell; simp only [Value.cells] at hc; have r0 := HAT.out.res.cell; have rf := HAT.out.res.frozen; have rl := HAT.out.res.lt; unfold zeroNd at r0; go_wp2_with fail
      refine ends_at rfl rfl rfl ((((HAT.out.res.set 0 _).set 1 _).set 2 _).set 3 _) Tryz.underlying66 rfl (by kernel_rfl) ?_
      first | exact ret_value HAT.out (hidB B N) (HL.out.dat) (hidB_yes (by omega)) (fun i hi => hidB_yes (by omega)) HT.out | (subst hA; exact ret_value HAT.out (hidB B N) (HL.out.dat) (hidB_yes (by omega)) (fun i hi => hidB_yes (by omega)) HT.out)
   | true =>
    replace HT := Z_ (bad_any (q := .got xd lr) HT.out); have hc := HL.out.nd.cell; simp only [Value.cells] at hc; have r0 := HAT.out.res.cell; have rf := HAT.out.res.frozen; have rl := HAT.out.res.lt; unfold zeroNd at r0; go_wp2_with fail
    refine ends_at rfl rfl rfl ((((HAT.out.res.set 0 _).set 1 _).set 2 _).set 3 _) Tryz.underlying66 rfl (by kernel_rfl) ?_
    first | exact ret_value HAT.out (hidB B N) (HL.out.dat) (hidB_yes (by omega)) (fun i hi => hidB_yes (by omega)) HT.out | (subst hA; exact ret_value HAT.out (hidB B N) (HL.out.dat) (hidB_yes (by omega)) (fun i hi => hidB_yes (by omega)) HT.out)
end synr
end Go.Proofs.YtpcihajmcejliabGreatDoor
namespace Go.Proofs.YtpcihajmcejliabGreatDoor
open Go.RowKit
namespace synr
open synw
structure RBld (W w0 u : World) (S A N : Nat) (l : List Tk) (b : Bool) (kind : Int) (text : ByteArray) (num : Int) (rowN row : Value) (acc : List Nd) : Prop where
 at_ : RAt W w0 u S A l b
 nd : Blk u N #[.int .i64 kind, .string text, .int .i64 num, rowN] 66
 grow : Grow 4 66 VNd (N + 1) u row acc
 hAN : A < N
theorem RBld.start {W w0 u : World} {S A : Nat} {l : List Tk} {b : Bool} (h : RAt W w0 u S A l b) (kind : Int) (text : ByteArray) (num : Int) :
  RBld W w0 (u.alloc (.cells #[.int .i64 kind, .string text, .int .i64 num, .slice none 0 0] 66)) S A u.heap.size l b kind text num (.slice none 0 0) (.slice none 0 0) [] :=
 ⟨h.alloc _, Blk.made _ _ _, Grow.nil _ _ _ _ _, h.lt⟩
theorem RBld.lt {W w0 u : World} {S A N : Nat} {l : List Tk} {b : Bool} {kind num : Int} {text : ByteArray} {rowN row : Value} {acc : List Nd} (h : RBld W w0 u S A N l b kind text num rowN row acc) : N < u.heap.size := h.nd.lt
theorem RBld.call {W w0 u u' : World} {S A N : Nat} {l l' : List Tk} {b b' : Bool} {kind num : Int} {text : ByteArray} {rowN row : Value} {acc : List Nd} (h : RBld W w0 u S A N l b kind text num rowN row acc) (hC : Chg (fun i => i = S) u u') (hP : RdrAt W u' S l' b') :
  RBld W w0 u' S A N l' b' kind text num rowN row acc := by
 have h1 := h.at_.hS; have h2 := h.at_.hA; have h3 := h.hAN
 exact ⟨h.at_.call hC hP, h.nd.chg hC (by omega), h.grow.chg vnd_keeps hC (fun i hi => by omega), h3⟩
theorem RBld.extend {W w0 u u' : World} {S A N : Nat} {l : List Tk} {b : Bool} {kind num : Int} {text : ByteArray} {rowN row : Value} {acc : List Nd} (h : RBld W w0 u S A N l b kind text num rowN row acc) (hE : Ext u u') : RBld W w0 u' S A N l b kind text num rowN row acc :=
 h.call (ext_at hE S) (h.at_.pr.extend hE)
theorem RBld.slice3 {W w0 u : World} {S A N : Nat} {l : List Tk} {b : Bool} {kind num : Int} {text : ByteArray} {rowN row : Value} {acc : List Nd} (h : RBld W w0 u S A N l b kind text num rowN row acc) : ∃ a c, row = .slice a acc.length c := by
 obtain ⟨us, _, ho, _⟩ := h.grow.ex; rcases ho.2 with ⟨rfl, h0⟩ | ⟨g, cap, cur, rfl, _⟩
 ·exact ⟨_, _, by rw [h0]⟩
 ·exact ⟨_, _, rfl⟩
theorem RBld.own {W w0 u : World} {S A N : Nat} {l : List Tk} {b : Bool} {kind num : Int} {text : ByteArray} {rowN row : Value} {acc : List Nd} (h : RBld W w0 u S A N l b kind text num rowN row acc) : ∀ i, row.ownBlock = some i → N + 1 ≤ i ∧ i < u.heap.size := by
 obtain ⟨us, _, ho, _⟩ := h.grow.ex; exact fun i e => World.ownsRow.lt ho i e
theorem RBld.kind {W w0 u : World} {S A N : Nat} {l : List Tk} {b : Bool} {kind num : Int} {text : ByteArray} {rowN row : Value} {acc : List Nd} (h : RBld W w0 u S A N l b kind text num rowN row acc) (k : Int) : RBld W w0 (u.setCell ⟨N, 0, none⟩ (.int .i64 k)) S A N l b k text num rowN row acc := by
 have h3 := h.hAN; have hC := chg_set (S := N) (Chg.refl _ u) 0 (.int .i64 k); exact ⟨h.at_.far hC (fun i e => by omega), by have := h.nd.set 0 (.int .i64 k); exact this, h.grow.chg vnd_keeps hC (fun i e => by omega), h3⟩
theorem RBld.text {W w0 u : World} {S A N : Nat} {l : List Tk} {b : Bool} {kind num : Int} {text : ByteArray} {rowN row : Value} {acc : List Nd} (h : RBld W w0 u S A N l b kind text num rowN row acc) (s : ByteArray) : RBld W w0 (u.setCell ⟨N, 1, none⟩ (.string s)) S A N l b kind s num rowN row acc := by
 have h3 := h.hAN; have hC := chg_set (S := N) (Chg.refl _ u) 1 (.string s); exact ⟨h.at_.far hC (fun i e => by omega), by have := h.nd.set 1 (.string s); exact this, h.grow.chg vnd_keeps hC (fun i e => by omega), h3⟩
theorem RBld.num {W w0 u : World} {S A N : Nat} {l : List Tk} {b : Bool} {kind num : Int} {text : ByteArray} {rowN row : Value} {acc : List Nd} (h : RBld W w0 u S A N l b kind text num rowN row acc) (m : Int) : RBld W w0 (u.setCell ⟨N, 2, none⟩ (.int .i64 m)) S A N l b kind text m rowN row acc := by
 have h3 := h.hAN; have hC := chg_set (S := N) (Chg.refl _ u) 2 (.int .i64 m); exact ⟨h.at_.far hC (fun i e => by omega), by have := h.nd.set 2 (.int .i64 m); exact this, h.grow.chg vnd_keeps hC (fun i e => by omega), h3⟩
theorem RBld.more {W w0 u u' : World} {S A N : Nat} {l : List Tk} {b : Bool} {kind num : Int} {text : ByteArray} {rowN row row1 : Value} {acc acc1 : List Nd} (h : RBld W w0 u S A N l b kind text num rowN row acc) (hG : Grow 4 66 VNd (N + 1) u' row1 acc1) (hC : Chg (fun i => row.ownBlock = some i) u u') :
  RBld W w0 u' S A N l b kind text num rowN row1 acc1 := by
 have h3 := h.hAN; have ho := h.own; exact ⟨h.at_.far hC (fun i e => by have := ho i e; omega), h.nd.chg hC (fun e => by have := ho _ e; omega), hG, h3⟩
theorem RBld.put {W w0 u : World} {S A N : Nat} {l : List Tk} {b : Bool} {kind num : Int} {text : ByteArray} {rowN row : Value} {acc : List Nd} (h : RBld W w0 u S A N l b kind text num rowN row acc) :
  RBld W w0 ((((u.setCell ⟨N, 0, none⟩ (.int .i64 kind)).setCell ⟨N, 1, none⟩ (.string text)).setCell ⟨N, 2, none⟩ (.int .i64 num)).setCell ⟨N, 3, none⟩ row) S A N l b kind text num row row acc := by
 have h3 := h.hAN; have hC := chg_set (S := N) (chg_set (chg_set (chg_set (Chg.refl _ u) 0 (.int .i64 kind)) 1 (.string text)) 2 (.int .i64 num)) 3 row; exact ⟨h.at_.far hC (fun i e => by omega), by have := (((h.nd.set 0 (.int .i64 kind)).set 1 (.string text)).set 2 (.int .i64 num)).set 3 row; exact this, h.grow.chg vnd_keeps hC (fun i e => by omega), h3⟩
theorem RBld.put3 {W w0 u : World} {S A N : Nat} {l : List Tk} {b : Bool} {kind num : Int} {text : ByteArray} {rowN row : Value} {acc : List Nd} (h : RBld W w0 u S A N l b kind text num rowN row acc) : RBld W w0 (u.setCell ⟨N, 3, none⟩ row) S A N l b kind text num row row acc := by
 have h3 := h.hAN; have hC := chg_set (S := N) (Chg.refl _ u) 3 row; exact ⟨h.at_.far hC (fun i e => by omega), by have := h.nd.set 3 row; exact this, h.grow.chg vnd_keeps hC (fun i e => by omega), h3⟩
theorem RBld.ret {W w0 u : World} {S A N : Nat} {l : List Tk} {b : Bool} {kind num : Int} {text : ByteArray} {rowN row : Value} {acc : List Nd} {T : Out Nd} (h : RBld W w0 u S A N l b kind text num rowN row acc) (ht : text.size ≤ 10000) (hT : stO b l (.got (.mk kind text num acc) l) = T) :
  Rst (VN w0.heap.size) W w0 S T (.returned (.agg #[.int .i64 kind, .string text, .int .i64 num, row])) ((((u.setCell ⟨A, 0, none⟩ (.int .i64 kind)).setCell ⟨A, 1, none⟩ (.string text)).setCell ⟨A, 2, none⟩ (.int .i64 num)).setCell ⟨A, 3, none⟩ row) := by
 have h3 := h.hAN; have h2 := h.at_.hA
 exact ret_value h.at_ (below (N + 1)) (ndAt_grow h.grow ht) (below_yes (by omega)) (fun i hi => below_yes (by omega)) hT
structure Kid (S N X : Nat) (row : Value) (u : World) (x : Nd) (v : Value) : Prop where
 nd : Blk u X v.cells 66
 dat : NdAt (hide (rowHid (N + 1) row) u) x v
 hSN : S < N
 hNX : N < X
 own : row.ownBlock ≠ some X
theorem Kid.call {S N X : Nat} {row : Value} {u u' : World} {x : Nd} {v : Value} (h : Kid S N X row u x v) (hC : Chg (fun i => i = S) u u') : Kid S N X row u' x v := by
 have h1 := h.hSN; have h2 := h.hNX
 exact ⟨h.nd.chg hC (by omega), ndAt_keeps (keeps_chg hC fun i _ e => by simp [rowHid]; omega) _ _ h.dat, h1, h2, h.own⟩
theorem Kid.extend {S N X : Nat} {row : Value} {u u' : World} {x : Nd} {v : Value} (h : Kid S N X row u x v) (hE : Ext u u') : Kid S N X row u' x v := h.call (ext_at hE S)
theorem Kid.far {S N X : Nat} {row : Value} {u u' : World} {x : Nd} {v : Value} (h : Kid S N X row u x v) (hC : Chg (fun i => i = N) u u') : Kid S N X row u' x v := by
 have h1 := h.hSN; have h2 := h.hNX
 exact ⟨h.nd.chg hC (by omega), ndAt_keeps (keeps_chg hC fun i _ e => by simp [rowHid]; omega) _ _ h.dat, h1, h2, h.own⟩
theorem Kid.start {S N B : Nat} {row : Value} {u : World} {x : Nd} {v : Value} (h : VN B x v u) (hSN : S < N) (hNB : N < B) (hr : ∀ i, row.ownBlock = some i → i < B) (hB : B ≤ u.heap.size) {c : Array Value} (hc : v.cells = c) : Kid S N u.heap.size row (u.alloc (.cells c 66)) x v := by
 subst hc; refine ⟨Blk.made _ _ _, ndAt_keeps (keeps_hide (by simp) fun i hi hm => ?_) _ _ h, hSN, by omega, fun e => by have := hr _ e; omega⟩
 simp only [below, rowHid, decide_eq_false_iff_not, Bool.or_eq_false_iff] at hm ⊢; exact ⟨⟨by omega, fun e => by have := hr _ e; omega⟩, Below.heap_alloc _ _ _ hi⟩
theorem Kid.more {S N X g n c : Nat} {row : Value} {u u' : World} {x : Nd} {v : Value} (h : Kid S N X row u x v) (hC : Chg (fun i => row.ownBlock = some i) u u') (hg : row.ownBlock = some g ∨ u.heap.size ≤ g) (_hr : ∀ i, row.ownBlock = some i → N + 1 ≤ i) : Kid S N X (.slice (some ⟨g, 0, none⟩) n c) u' x v := by
 have h1 := h.hSN; have h2 := h.hNX; have h4 := h.nd.lt
 have e : ∀ j, (Value.slice (some ⟨g, 0, none⟩) n c).ownBlock = some j → j = g := fun j h => by simpa [Value.ownBlock] using h.symm
 refine ⟨h.nd.chg hC h.own, ndAt_keeps (keeps_hide hC.size fun i hi hm => ?_) _ _ h.dat, h1, h2, fun q => ?_⟩
 ·simp only [rowHid, decide_eq_false_iff_not, Bool.or_eq_false_iff] at hm ⊢
  refine ⟨⟨hm.1, fun q => ?_⟩, hC.block i hi hm.2⟩
  have := e i q; subst this; rcases hg with hg | hg
  ·exact hm.2 hg
  ·omega
 ·have := e X q
  subst this; rcases hg with hg | hg
  ·exact h.own hg
  ·omega
theorem pushed {u w4 : World} {B : Nat} {row : Value} {acc : List Nd} {x : Nd} {v : Value} {us : List Value} {o : Obj} {g c : Nat} (hu1 : us.length = acc.length) (hu3 : ∀ j (h : j < acc.length) (h' : j < us.length), VNd acc[j] us[j] (hide (rowHid B row) u) ∧ us[j].cells.size = 4) (hx : NdAt (hide (rowHid B row) u) x v)
  (hown : w4.ownsRow B 66 4 (.slice (some ⟨g, 0, none⟩) (acc.length + 1) c) (acc.length + 1) (us.flatMap (fun u => u.cells.toList) ++ v.cells.toList)) (hgrow : (u.alloc o).grownBy w4 row.ownBlock) (hat : row.ownBlock = some g ∨ g = u.heap.size + 1) :
  Grow 4 66 VNd B w4 (.slice (some ⟨g, 0, none⟩) (acc.length + 1) c) (acc ++ [x]) ∧ Chg (fun i => row.ownBlock = some i) u w4 ∧ (row.ownBlock = some g ∨ u.heap.size ≤ g) := by
 have hC := grown_low hgrow (Chg.refl _ u); refine ⟨Grow.push vnd_keeps hu1 hu3 hx (nd_size hx) hown hC.size (fun i hi hn => hC.block i hi hn) (fun i hi => ?_), hC, by rcases hat with h | h; exact .inl h; exact .inr (by omega)⟩
 have e : g = i := by simpa [Value.ownBlock] using hi
 subst e; rcases hat with h | h
 ·exact .inl h
 ·exact .inr (by omega)
def argsQ (n : Nat) (s : ByteArray) (acc : List Nd) (l : List Tk) : Out Nd := match n with
 | 0 => .out
 | n + 1 => (prs n .expr l).bind fun x l => if isB l [sComma] = true then prs n (.args s (acc ++ [x])) l.tail else (pNeed sClose l).bind fun _ l => .got (.mk 18 s 0 (acc ++ [x])) l
theorem args_open {n : Nat} {s : ByteArray} {l : List Tk} {b : Bool} {T : Out Nd} (h : stO b l (prs n (.args s []) l) = T) (hT : T ≠ .out) : stO b l (if isB l [sClose] = true then .got (.mk 18 s 0 []) l.tail else argsQ n s [] l) = T := by
 cases b with
 | true => exact h
 | false =>
  cases n with
  | zero => exact absurd h.symm hT
  | succ n =>
   have h2 : prs (n + 1) (.args s []) l = T := h; simp only [prs] at h2; show (if _ then _ else _) = T
   rw [← h2]; cases hi : isB l [sClose] with
   | true => simp [pNeed, hi, Out.bind]
   | false => simp [argsQ]
theorem args_next {n : Nat} {s : ByteArray} {acc : List Nd} {x : Nd} {l : List Tk} {b : Bool} {T : Out Nd} (h : stO b l (prs n (.args s (acc ++ [x])) l) = T) (hT : T ≠ .out) : stO b l (argsQ n s (acc ++ [x]) l) = T := by
 cases b with
 | true => exact h
 | false =>
  cases n with
  | zero => exact absurd h.symm hT
  | succ n =>
   have h2 : prs (n + 1) (.args s (acc ++ [x])) l = T := h; simp only [prs] at h2; rw [← h2]; simp [stO, argsQ]
theorem rel_lt {n : Nat} {X : NT} {l l2 : List Tk} {x : Nd} {b2 : Bool} (h : Rel (stO false l (prs n X l)) x l2 b2) (hne : prs n X l ≠ .out) (hb : b2 = false) : l2.length + X.weak ≤ l.length := by
 have h2 : Rel (prs n X l) x l2 b2 := h; cases hp : prs n X l with
 | out => exact absurd hp hne
 | bad q => rw [hp] at h2; obtain ⟨_, h3⟩ := h2; rw [hb] at h3; cases h3
 | got y q => rw [hp] at h2; obtain ⟨_, rfl, _⟩ := h2; exact synm.prs_lt _ _ _ _ _ hp
set_option maxRecDepth 100000 in
set_option maxHeartbeats 4000000 in
theorem call_step {b0 g0 : Bool} {n : Nat} {s : ByteArray} (dG : ∀ m, m ≤ n → RC b0 true m .expr) {W w : World} {S : Nat} {l : List Tk} {b : Bool} (h : RdrAt W w S l b) (hb : b0 = true → b = true) (_hg : g0 = true → b = false) (hs : s.size ≤ 7000) (hne : stO b l (prs (n + 1) (.call s) l) ≠ .out) :
  Calls Tryz.prog 260 #[.pointer (some ⟨S, 0, none⟩), .string s] w (Rst (VN w.heap.size) W w S (stO b l (prs (n + 1) (.call s) l))) := by
 obtain ⟨T, hT⟩ : ∃ T, stO b l (prs (n + 1) (.call s) l) = T := ⟨_, rfl⟩; rw [hT] at hne ⊢; simp only [prs] at hT; have HT := Z_ hT; have HNE := Z_ hne; have HBD := Z_ hb; have HAT : Hid (RAt W w (w.alloc (.cells #[.int .i64 0, .string ⟨#[]⟩, .int .i64 0, .slice none 0 0] 66)) S w.heap.size l b) := Z_ (RAt.start h); obtain ⟨A, hA⟩ : ∃ A, w.heap.size = A := ⟨_, rfl⟩; rw [hA] at HAT; have hSA : S < A := by have := h.lt; omega
 clear h hb _hg hne hT; go_enter Tryz.func260, Tryz.ntmps260
 go_upto_region 1 with (fail)
 generalize w.alloc (.cells #[.int .i64 0, .string ⟨#[]⟩, .int .i64 0, .slice none 0 0] 66) = u0 at *; have HB := Z_ (RBld.start HAT.out 18 s 0); obtain ⟨N, hN⟩ : ∃ N, u0.heap.size = N := ⟨_, rfl⟩; rw [hN] at HB; have hSN : S < N := by have := HAT.out.lt; omega
 have hAN : A < N := by have := HAT.out.lt; omega
 clear HAT; go_upto_region 2 with (fail)
 generalize u0.alloc (.cells #[.int .i64 18, .string s, .int .i64 0, .slice none 0 0] 66) = v0 at *; have HAT := Z_ HB.out.at_; have HN := Z_ (must_any HAT.out.pr sOpen (by decide)); go_wp2_with fail
 refine HN.out.mono ?_
 rintro e u1 ⟨hC, _, _, l1, b1, rfl, rfl, hP, hrel⟩; replace HT := Z_ (now_bind HT.out HNE.out hrel); replace HBD := Z_ (rel_bad (b0 := b0) hrel (by first | exact HBD.out | exact fun _ => rfl | (intro e; have := HBD.out; simp_all))); replace HB := Z_ (HB.out.call hC hP); replace HAT := Z_ HB.out.at_; clear hC hP hrel HN; replace HT := Z_ (args_open HT.out HNE.out); have HN := Z_ (eat_any HAT.out.pr sClose (by decide)); have HY := Z_ (fun he => now_eat2 HT.out he); have HO := Z_ (fun he => now_not HT.out he); clear HT; generalize (!b1 && isB l1 [sClose]) = R at *; go_wp2_with fail
 refine HN.out.mono ?_
 rintro e u2 ⟨rfl, hC, hP⟩; cases R with
 | false =>
  replace hP : RdrAt W u2 S l1 b1 := by simpa using hP
  have HT := Z_ (HO.out (by trivial)); replace HB := Z_ (HB.out.call hC hP); replace HAT := Z_ HB.out.at_; clear hC hP HN HY HO; have hL0 := HAT.out.pr.len; go_wp2_with fail
  go_loopg [6] n (fun kk on wr => ∃ (o : Bool) (l2 : List Tk) (b2 : Bool) (acc : List Nd) (row : Value), on = .bool o ∧ kk ≤ n ∧ Hid (b0 = true → b2 = true) ∧ Hid (stO b2 l2 (if o = true then argsQ kk s acc l2 else (pNeed sClose l2).bind fun _ l => .got (.mk 18 s 0 acc) l) = T) ∧ Hid (RBld W w wr S A N l2 b2 18 s 0 row row acc) ∧ Hid (b2 = false → acc.length + l2.length ≤ 10000))
  case atStart => exact ⟨true, l1, b1, [], .slice none 0 0, rfl, Nat.le_refl _, HBD, HT, HB, Z_ (fun _ => by simpa using hL0)⟩
  clear HT HB HAT HBD hL0
  case round =>
   obtain ⟨o, lr, br, acc, row, rfl, hkn, HBD, HT, HB, HLE⟩ := hrel; have HAT := Z_ HB.out.at_; obtain ⟨ra_, rn_, rc_, rk_, hbk, -, -⟩ := rdr_blk HAT.out.pr; have c2 := hbk.cell 2; simp at c2
   clear hbk; cases o with
   | false =>
    replace HT := Z_ (show stO br lr ((pNeed sClose lr).bind fun _ l => .got (.mk 18 s 0 acc) l) = T from HT.out); go_wp2_with fail
    have HN := Z_ (must_any HAT.out.pr sClose (by decide)); go_wp2_with fail
    refine HN.out.mono ?_
    rintro e u3 ⟨hC, _, _, l3, b3, rfl, rfl, hP, hrel⟩; replace HT := Z_ (now_bind HT.out HNE.out hrel); replace HBD := Z_ (rel_bad (b0 := b0) hrel (by first | exact HBD.out | exact fun _ => rfl | (intro e; have := HBD.out; simp_all))); replace HB := Z_ (HB.out.call hC hP); replace HAT := Z_ HB.out.at_; clear hC hP hrel HN; obtain ⟨ra, rc, hrow⟩ := HB.out.slice3
    first | subst hrow | clear hrow
    have n0 := HB.out.nd.cell; have r0 := HB.out.at_.res.cell; have rf := HB.out.at_.res.frozen; have rl := HB.out.at_.res.lt; unfold zeroNd at r0; go_wp2_with fail
    refine ends_at rfl rfl rfl ((((HB.out.at_.res.set 0 _).set 1 _).set 2 _).set 3 _) Tryz.underlying66 rfl (by kernel_rfl) ?_
    first | exact HB.out.ret (by omega) HT.out | (subst hA; exact HB.out.ret (by omega) HT.out)
   | true =>
    cases br with
    | false =>
     replace HT := Z_ (show stO false lr (argsQ gk s acc lr) = T from HT.out); cases gk with
     | zero => exact absurd HT.out.symm HNE.out
     | succ m =>
      have HT0 := HT.out; clear HT; simp only [argsQ] at HT0; have HT := Z_ HT0; clear HT0; have HNX := Z_ (fun e => now_ne HT.out HNE.out e : prs m .expr lr ≠ .out); obtain ⟨B, hB⟩ : ∃ B, wr.heap.size = B := ⟨_, rfl⟩; have hNB := HB.out.lt; have HOW := Z_ HB.out.own; rw [hB] at hNB HOW; have HN := Z_ ((dG m (by omega)) _ _ HAT.out.pr (by first | exact HBD.out | exact fun _ => rfl | (intro e; have := HBD.out; simp_all)) (fun _ => rfl) rfl trivial (now_ne HT.out HNE.out)); go_wp2_with fail
      refine HN.out.mono ?_
      rintro e u4 ⟨hC, x4, v4, l4, b4, rfl, hv, hP, hrel⟩; have HLT := Z_ (fun e => rel_lt hrel HNX.out e); replace HT := Z_ (now_bind HT.out HNE.out hrel); replace HBD := Z_ (rel_bad (b0 := b0) hrel (by first | exact HBD.out | exact fun _ => rfl | (intro e; have := HBD.out; simp_all))); replace HB := Z_ (HB.out.call hC hP); replace HAT := Z_ HB.out.at_; obtain ⟨ka4, ta4, ma4, aa4, na4, ca4, rfl⟩ := nd_form hv; have HV4 := Z_ hv; have hsz4 : wr.heap.size ≤ u4.heap.size := hC.size; clear hC hP hrel hv HN; rw [hB] at HV4 hsz4; have HK := Z_ (Kid.start HV4.out hSN hNB (fun i e => (HOW.out i e).2) hsz4 (c := #[.int .i64 ka4, .string ta4, .int .i64 ma4, .slice aa4 na4 ca4]) rfl); have hEx := (Chg.refl (fun _ => False) u4).alloc (.cells #[.int .i64 ka4, .string ta4, .int .i64 ma4, .slice aa4 na4 ca4] 66); replace HB := Z_ (HB.out.extend hEx); replace HAT := Z_ HB.out.at_
      clear hEx HOW; obtain ⟨XHK, hXHK⟩ : ∃ X, u4.heap.size = X := ⟨_, rfl⟩; rw [hXHK] at HK; go_upto_region 9 with (fail)
      generalize u4.alloc (.cells #[.int .i64 ka4, .string ta4, .int .i64 ma4, .slice aa4 na4 ca4] 66) = u9 at *; clear hB hNB hsz4 HV4; have hle := HLE.out (by trivial); clear HAT; obtain ⟨ra, rc, hrow⟩ := HB.out.slice3
      first | subst hrow | (injection hrow; subst_vars)
      have n0 := HB.out.nd.cell; have nf := HB.out.nd.frozen; have nl := HB.out.lt; have kc := HK.out.nd.cell; simp only [Value.cells] at kc; go_wp2_with fail
      refine (more_any HB.out.grow HK.out.dat (by omega) (by omega)).mono ?_
      rintro e w5 ⟨g, c', rfl, hG, hC, hg⟩; replace HB := Z_ (HB.out.more hG hC); clear n0 nf nl kc hC hG hg; have n0 := HB.out.nd.cell; have nf := HB.out.nd.frozen; have nl := HB.out.lt; go_upto_region 7 with (fail)
      replace HB := Z_ HB.out.put; clear n0 nf nl; generalize ((((w5.setCell ⟨N, 0, none⟩ (.int .i64 18)).setCell ⟨N, 1, none⟩ (.string s)).setCell ⟨N, 2, none⟩ (.int .i64 0)).setCell ⟨N, 3, none⟩ (.slice (some ⟨g, 0, none⟩) (acc.length + 1) c')) = w6 at *; have HAT := Z_ HB.out.at_; have HN := Z_ (eat_any HAT.out.pr sComma (by decide)); have HY := Z_ (fun he => now_eat2 HT.out he); have HO := Z_ (fun he => now_not HT.out he); clear HT; generalize (!b4 && isB l4 [sComma]) = R at *; go_wp2_with fail
      refine HN.out.mono ?_
      rintro e u5 ⟨rfl, hC, hP⟩; cases R with
      | false =>
       replace hP : RdrAt W u5 S l4 b4 := by simpa using hP
       have HT := Z_ (HO.out (by trivial)); replace HB := Z_ (HB.out.call hC hP); replace HAT := Z_ HB.out.at_; clear hC hP HN HY HO; go_wp2_with fail
       go_roundg m
       case rel => exact ⟨false, l4, b4, acc ++ [x4], _, rfl, by omega, HBD, HT, HB, Z_ (fun e => by have := HLT.out e; simp only [NT.weak, List.length_append, List.length_singleton] at this ⊢; omega)⟩
       case measure => omega
      | true =>
       obtain ⟨hbf, HT0⟩ := HY.out (by trivial)
       first | subst hbf | clear hbf
       replace hP : RdrAt W u5 S l4.tail false := by simpa using hP
       have HT := Z_ (HT0 l4.tail); replace HB := Z_ (HB.out.call hC hP); replace HAT := Z_ HB.out.at_; clear hC hP HN HY HO HT0; go_wp2_with fail
       go_roundg m
       case rel => exact ⟨true, l4.tail, false, acc ++ [x4], _, rfl, by omega, HBD, Z_ (args_next HT.out HNE.out), HB, Z_ (fun e => by have := HLT.out (by trivial); simp only [NT.weak, List.length_append, List.length_singleton, List.length_tail] at this ⊢; omega)⟩
       case measure => omega
    | true =>
     replace HT := Z_ (bad_any (q := (pNeed sClose lr).bind fun _ l => .got (.mk 18 s 0 acc) l) HT.out); go_wp2_with fail
     have HN := Z_ (must_any HAT.out.pr sClose (by decide)); go_wp2_with fail
     refine HN.out.mono ?_
     rintro e u6 ⟨hC, _, _, l6, b6, rfl, rfl, hP, hrel⟩; replace HT := Z_ (now_bind HT.out HNE.out hrel); replace HBD := Z_ (rel_bad (b0 := b0) hrel (by first | exact HBD.out | exact fun _ => rfl | (intro e; have := HBD.out; simp_all))); replace HB := Z_ (HB.out.call hC hP); replace HAT := Z_ HB.out.at_; clear hC hP hrel HN; obtain ⟨ra, rc, hrow⟩ := HB.out.slice3
     first | subst hrow | clear hrow
     have n0 := HB.out.nd.cell; have r0 := HB.out.at_.res.cell; have rf := HB.out.at_.res.frozen; have rl := HB.out.at_.res.lt; unfold zeroNd at r0; go_wp2_with fail
     refine ends_at rfl rfl rfl ((((HB.out.at_.res.set 0 _).set 1 _).set 2 _).set 3 _) Tryz.underlying66 rfl (by kernel_rfl) ?_
     first | exact HB.out.ret (by omega) HT.out | (subst hA; exact HB.out.ret (by omega) HT.out)
 | true =>
  obtain ⟨hbf, HT0⟩ := HY.out (by trivial)
  first | subst hbf | clear hbf
  replace hP : RdrAt W u2 S l1.tail false := by simpa using hP
  have HT := Z_ (HT0 l1.tail); replace HB := Z_ (HB.out.call hC hP); replace HAT := Z_ HB.out.at_; clear hC hP HN HY HO HT0; obtain ⟨ra, rc, hrow⟩ := HB.out.slice3
  first | subst hrow | clear hrow
  have n0 := HB.out.nd.cell; have r0 := HB.out.at_.res.cell; have rf := HB.out.at_.res.frozen; have rl := HB.out.at_.res.lt; unfold zeroNd at r0; go_wp2_with fail
  refine ends_at rfl rfl rfl ((((HB.out.at_.res.set 0 _).set 1 _).set 2 _).set 3 _) Tryz.underlying66 rfl (by kernel_rfl) ?_
  first | exact HB.out.ret (by omega) HT.out | (subst hA; exact HB.out.ret (by omega) HT.out)
set_option maxRecDepth 100000 in
set_option maxHeartbeats 4000000 in
theorem block_step {b0 g0 : Bool} {n : Nat} (dG : ∀ m, m ≤ n → RC b0 true m .stat) {W w : World} {S : Nat} {l : List Tk} {b : Bool} (h : RdrAt W w S l b) (hb : b0 = true → b = true) (_hg : g0 = true → b = false) (hne : stO b l (prs (n + 1) (.block) l) ≠ .out) :
  Calls Tryz.prog 162 #[.pointer (some ⟨S, 0, none⟩)] w (Rst (VN w.heap.size) W w S (stO b l (prs (n + 1) (.block) l))) := by
 obtain ⟨T, hT⟩ : ∃ T, stO b l (prs (n + 1) (.block) l) = T := ⟨_, rfl⟩; rw [hT] at hne ⊢; simp only [prs] at hT; have HT := Z_ hT; have HNE := Z_ hne; have HBD := Z_ hb; have HAT : Hid (RAt W w (w.alloc (.cells #[.int .i64 0, .string ⟨#[]⟩, .int .i64 0, .slice none 0 0] 66)) S w.heap.size l b) := Z_ (RAt.start h); obtain ⟨A, hA⟩ : ∃ A, w.heap.size = A := ⟨_, rfl⟩; rw [hA] at HAT; have hSA : S < A := by have := h.lt; omega
 clear h hb _hg hne hT; go_enter Tryz.func162, Tryz.ntmps162
 go_upto_region 1 with (fail)
 generalize w.alloc (.cells #[.int .i64 0, .string ⟨#[]⟩, .int .i64 0, .slice none 0 0] 66) = u0 at *; have HB := Z_ (RBld.start HAT.out 6 ⟨#[]⟩ 0); obtain ⟨N, hN⟩ : ∃ N, u0.heap.size = N := ⟨_, rfl⟩; rw [hN] at HB; have hSN : S < N := by have := HAT.out.lt; omega
 have hAN : A < N := by have := HAT.out.lt; omega
 clear HAT; go_upto_region 2 with (fail)
 generalize u0.alloc (.cells #[.int .i64 6, .string ⟨#[]⟩, .int .i64 0, .slice none 0 0] 66) = v0 at *; have HAT := Z_ HB.out.at_; have HN := Z_ (must_any HAT.out.pr sCurl (by decide)); go_wp2_with fail
 refine HN.out.mono ?_
 rintro e u1 ⟨hC, _, _, l1, b1, rfl, rfl, hP, hrel⟩; replace HT := Z_ (now_bind HT.out HNE.out hrel); replace HBD := Z_ (rel_bad (b0 := b0) hrel (by first | exact HBD.out | exact fun _ => rfl | (intro e; have := HBD.out; simp_all))); replace HB := Z_ (HB.out.call hC hP); replace HAT := Z_ HB.out.at_; clear hC hP hrel HN; have hL0 := HAT.out.pr.len; go_wp2_with fail
 go_loopg [] n (fun kk wr => ∃ (l2 : List Tk) (b2 : Bool) (acc : List Nd) (row : Value), kk ≤ n ∧ Hid (b0 = true → b2 = true) ∧ Hid (stO b2 l2 (prs kk (.stats acc) l2) = T) ∧ Hid (RBld W w wr S A N l2 b2 6 ⟨#[]⟩ 0 row row acc) ∧ Hid (b2 = false → acc.length + l2.length ≤ 10000))
 case atStart => exact ⟨l1, b1, [], .slice none 0 0, Nat.le_refl _, HBD, HT, HB, Z_ (fun _ => by simpa using hL0)⟩
 clear HT HB HAT HBD hL0
 case round =>
  obtain ⟨lr, br, acc, row, hkn, HBD, HT, HB, HLE⟩ := hrel; have HAT := Z_ HB.out.at_; obtain ⟨ra_, rn_, rc_, rk_, hbk, -, -⟩ := rdr_blk HAT.out.pr; have c2 := hbk.cell 2; simp at c2
  clear hbk; cases br with
  | false =>
   cases gk with
   | zero => exact absurd HT.out.symm HNE.out
   | succ m =>
    have HT0 := HT.out; clear HT; simp only [prs] at HT0; have HT := Z_ HT0; clear HT0; have HN := Z_ (eat_any HAT.out.pr sLruc (by decide)); have HY := Z_ (fun he => now_eat2 HT.out he); have HO := Z_ (fun he => now_not HT.out he); clear HT; generalize (!false && isB lr [sLruc]) = R at *; go_wp2_with fail
    refine HN.out.mono ?_
    rintro e u2 ⟨rfl, hC, hP⟩; cases R with
    | false =>
     replace hP : RdrAt W u2 S lr false := by simpa using hP
     have HT := Z_ (HO.out (by trivial)); replace HB := Z_ (HB.out.call hC hP); replace HAT := Z_ HB.out.at_; clear hC hP HN HY HO; have HNX := Z_ (fun e => now_ne HT.out HNE.out e : prs m .stat lr ≠ .out); obtain ⟨B, hB⟩ : ∃ B, u2.heap.size = B := ⟨_, rfl⟩; have hNB := HB.out.lt; have HOW := Z_ HB.out.own; rw [hB] at hNB HOW; have HN := Z_ ((dG m (by omega)) _ _ HAT.out.pr (by first | exact HBD.out | exact fun _ => rfl | (intro e; have := HBD.out; simp_all)) (fun _ => rfl) rfl trivial (now_ne HT.out HNE.out)); go_wp2_with fail
     refine HN.out.mono ?_
     rintro e u3 ⟨hC, x3, v3, l3, b3, rfl, hv, hP, hrel⟩; have HLT := Z_ (fun e => rel_lt hrel HNX.out e); replace HT := Z_ (now_bind HT.out HNE.out hrel); replace HBD := Z_ (rel_bad (b0 := b0) hrel (by first | exact HBD.out | exact fun _ => rfl | (intro e; have := HBD.out; simp_all))); replace HB := Z_ (HB.out.call hC hP); replace HAT := Z_ HB.out.at_; obtain ⟨ka3, ta3, ma3, aa3, na3, ca3, rfl⟩ := nd_form hv; have HV3 := Z_ hv; have hsz3 : u2.heap.size ≤ u3.heap.size := hC.size; clear hC hP hrel hv HN; rw [hB] at HV3 hsz3; have HK := Z_ (Kid.start HV3.out hSN hNB (fun i e => (HOW.out i e).2) hsz3 (c := #[.int .i64 ka3, .string ta3, .int .i64 ma3, .slice aa3 na3 ca3]) rfl); have hEx := (Chg.refl (fun _ => False) u3).alloc (.cells #[.int .i64 ka3, .string ta3, .int .i64 ma3, .slice aa3 na3 ca3] 66); replace HB := Z_ (HB.out.extend hEx); replace HAT := Z_ HB.out.at_
     clear hEx HOW; obtain ⟨XHK, hXHK⟩ : ∃ X, u3.heap.size = X := ⟨_, rfl⟩; rw [hXHK] at HK; go_upto_region 5 with (fail)
     generalize u3.alloc (.cells #[.int .i64 ka3, .string ta3, .int .i64 ma3, .slice aa3 na3 ca3] 66) = u9 at *; clear hB hNB hsz3 HV3; have hle := HLE.out (by trivial); clear HAT; obtain ⟨ra, rc, hrow⟩ := HB.out.slice3
     first | subst hrow | (injection hrow; subst_vars)
     obtain ⟨us, hu1, ho, hu3⟩ := HB.out.grow.ex; have HO := Z_ ho; have HU := Z_ (And.intro hu1 hu3); have HOW := Z_ HB.out.own; clear ho hu1 hu3; have n0 := HB.out.nd.cell; have nf := HB.out.nd.frozen; have nl := HB.out.lt; have kc := HK.out.nd.cell; simp only [Value.cells] at kc; obtain ⟨i0_, hi, hz0, hz1, hz2⟩ := info_split info_node; go_wp2_with (at_builtin; refine wpList_append_lies _ rfl _ _ 35 rfl (N + 1) 66 i0_ (.agg #[.int .i64 0, .string ⟨#[]⟩, .int .i64 0, .slice none 0 0]) 4 56 Tryz.underlying35 hi hz0 hz1 hz2 rfl (by decide) (.slice ra acc.length rc) acc.length (us.flatMap fun u => u.cells.toList) rfl (HO.out.alloc _) ⟨u9.heap.size, 0, none⟩ 1 1 [.int .i64 ka3, .string ta3, .int .i64 ma3, .slice aa3 na3 ca3] rfl rfl (by intro j q hj; have e : (⟨u9.heap.size, 0, none⟩ : Addr).add j = ⟨u9.heap.size, j, none⟩ := (by unfold Addr.add; split <;> simp_all); rw [e, (Blk.made u9 _ _).cell]; simpa using hj) (by intro q hq; simp at hq; rcases hq with rfl | rfl | rfl | rfl <;> rfl) (by decide) (by unfold maxLen; omega) (by omega) (by simp; omega) (u9.heap.size + 1) (by simp) ?_; intro g c' w4 hown hgrow hat hlt1; have HPU := Z_ (pushed HU.out.1 HU.out.2 HK.out.dat hown hgrow hat); have HBN := Z_ (grown_blk hgrow (HB.out.nd.alloc _) (fun e => by have := (HOW.out N e).1; omega)); have q1 := HBN.out.cell; have q1f := HBN.out.frozen; have q1l := HBN.out.lt; clear hown hgrow hat n0 nf nl kc HBN)
     obtain ⟨hG, hC, -⟩ := HPU.out; replace HB := Z_ (HB.out.more hG hC).put3; clear hG hC HPU q1 q1f q1l; go_roundg m
     case rel => exact ⟨l3, b3, (acc ++ [x3]), _, by omega, HBD, HT, HB, Z_ (fun e => by have := HLT.out e; simp only [NT.weak, List.length_append, List.length_singleton] at this ⊢; omega)⟩
     case measure => omega
    | true =>
     obtain ⟨hbf, HT0⟩ := HY.out (by trivial)
     first | subst hbf | clear hbf
     replace hP : RdrAt W u2 S lr.tail false := by simpa using hP
     have HT := Z_ (HT0 lr.tail); replace HB := Z_ (HB.out.call hC hP); replace HAT := Z_ HB.out.at_; clear hC hP HN HY HO HT0; obtain ⟨ra, rc, hrow⟩ := HB.out.slice3
     first | subst hrow | clear hrow
     have n0 := HB.out.nd.cell; have r0 := HB.out.at_.res.cell; have rf := HB.out.at_.res.frozen; have rl := HB.out.at_.res.lt; unfold zeroNd at r0; go_wp2_with fail
     refine ends_at rfl rfl rfl ((((HB.out.at_.res.set 0 _).set 1 _).set 2 _).set 3 _) Tryz.underlying66 rfl (by kernel_rfl) ?_
     first | exact HB.out.ret (by decide) HT.out | (subst hA; exact HB.out.ret (by decide) HT.out)
  | true =>
   replace HT := Z_ (bad_any (q := .got (.mk 6 noText 0 acc) lr) HT.out); obtain ⟨ra, rc, hrow⟩ := HB.out.slice3
   first | subst hrow | clear hrow
   have n0 := HB.out.nd.cell; have r0 := HB.out.at_.res.cell; have rf := HB.out.at_.res.frozen; have rl := HB.out.at_.res.lt; unfold zeroNd at r0; go_wp2_with fail
   refine ends_at rfl rfl rfl ((((HB.out.at_.res.set 0 _).set 1 _).set 2 _).set 3 _) Tryz.underlying66 rfl (by kernel_rfl) ?_
   first | exact HB.out.ret (by decide) HT.out | (subst hA; exact HB.out.ret (by decide) HT.out)
end synr
end Go.Proofs.YtpcihajmcejliabGreatDoor
