/- The walk of the law CheckMore. Faces that come in, opened: their rows, how much they are. -/
import Derived.Test.YtpcihajmcejliacGreatDoorShelf
import Derived.Deep.Slices
import Derived.ChangeArms
import Derived.ChangeShapes
import Derived.WideShapes
import Derived.DataReads
import Derived.Test.YtpcihajmcejliacGreatDoorSynC
import Derived.Test.YtpcihajmcejliacGreatDoorOfD
import Derived.Test.YtpcihajmcejliacGreatDoorOfS
import Derived.Test.YtpcihajmcejliacGreatDoorFaceMay
import Derived.Test.YtpcihajmcejliacGreatDoorMorA
import Derived.Test.YtpcihajmcejliacGreatDoorSynR11
import Derived.Test.YtpcihajmcejliacGreatDoorLexNum
namespace Go.Proofs.YtpcihajmcejliacGreatDoor
open Go.RowKit
namespace checkMore
open synw ofp chk chkmore
theorem lit_ok : (nodeT (checkF ⟨#[109, 111, 100, 117, 108, 101, 32, 109, 59]⟩ [])).tx = ⟨#[109]⟩ := by kernel_rfl
theorem nd_tx {w : World} {x : Nd} {v : Value} (h : NdAt w x v) : ∃ k m a n c, v = .agg #[.int .i64 k, .string x.tx, .int .i64 m, .slice a n c] := by
 cases x with
 | mk k t m l =>
  rw [ndAt_mk] at h; obtain ⟨a, c, rfl, -⟩ := h; exact ⟨_, _, _, _, _, rfl⟩
theorem faces_ext {w w' : World} (hE : Ext w w') {a : Option Addr} {l : List FFace} (h : AllIn 3 FaceIn w a l) : AllIn 3 FaceIn w' a l := fun j hj => by
 obtain ⟨b, o, e, hb, hx⟩ := h j hj; exact ⟨b, o, e, Nat.lt_of_lt_of_le hb hE.size, FaceIn.ext hE hb hx⟩
theorem has_len {l : List ByteArray} {s : ByteArray} (h : hasB l s = true) : 0 < l.length := by
 cases l with
 | nil => cases h
 | cons _ _ => exact Nat.succ_pos _
theorem has_not {l : List ByteArray} {s : ByteArray} (h : hasB l s = false) : s ∉ l := fun hm => by
 have h2 : hasB l s = true := List.any_eq_true.2 ⟨s, hm, decide_eq_true rfl⟩; rw [h] at h2; cases h2
theorem faces_xs {w : World} {fa : Option Addr} {l : List FFace} {k : Nat} {mn : ByteArray} (hn : l.length = k) (h : AllIn 3 FaceIn w fa l) (ha : ∀ f ∈ l, f.modn ≠ mn) :
  ∃ xs : List Value, xs.length = k * 3 ∧ (∀ b o, fa = some ⟨b, o, none⟩ → ∀ j v, xs[j]? = some v → w.cell? ⟨b, o + j, none⟩ = some v) ∧ (∀ u ∈ xs, u.oneCell' = true) ∧ (0 < k → ∃ b o, fa = some ⟨b, o, none⟩ ∧ xs[0]? ≠ some (.string mn)) := by
 subst hn; rcases Nat.eq_zero_or_pos l.length with h0 | h0
 ·exact ⟨[], by rw [h0]; rfl, fun _ _ _ j v hv => by simp at hv, fun _ h => by simp at h, fun h => by omega⟩
 ·obtain ⟨b, o, rfl, hb, a, m1, c, d, q0, -⟩ := h 0 h0
  obtain ⟨xs, h1, h2, h3⟩ := face_cells h; refine ⟨xs, h1, fun b' o' e => ?_, h3, fun _ => ⟨b, o, rfl, fun e => ?_⟩⟩
  ·obtain ⟨rfl, rfl⟩ : b = b' ∧ o = o' := by simpa using e
   exact h2
  ·have h4 := h2 0 _ e
   rw [show o + 0 = o + 0 * 3 from by omega, q0] at h4; exact ha _ (List.getElem_mem h0) (by simpa using h4)
theorem keeps_nohide (w : World) : Keeps w (hide (fun _ => false) w) := ⟨by rw [hide_size]; exact Nat.le_refl _, fun p u hp => by rw [hide_cell (fun _ => false) w p rfl]; exact hp⟩
theorem nd_kd {w : World} {x : Nd} {v : Value} (h : NdAt w x v) : ∃ t m a n c, v = .agg #[.int .i64 x.kd, .string t, .int .i64 m, .slice a n c] := by
 cases x with
 | mk k t m l =>
  rw [ndAt_mk] at h; obtain ⟨a, c, rfl, -⟩ := h; exact ⟨_, _, _, _, _, rfl⟩
set_option maxRecDepth 100000 in
set_option maxHeartbeats 8000000 in
theorem walk (s : ByteArray) (fa : Option Addr) (l : List FFace) (n cap : Nat) (m : FFace) (vm : Value) (w : World) (hn : l.length = n) (hs : s.size ≤ 9223372036854775807) (hv : ErrVar w) (hm : MaxVar w) (hl : AllIn 3 FaceIn w fa l) (hlc : n ≤ cap) (hcm : cap ≤ maxLen)
  (hsum : ∀ f ∈ l, f.vars.length + f.procs.length < maxLen) (hfm : FaceAt w m vm) (hsm : m.vars.length + m.procs.length < maxLen) (hsz : n ≤ 1048576) :
  Calls Tryz.prog 4 #[.string s, .slice fa n cap, vm] w fun e w' => e = .returned (.bool true) ∧ Ext w w' := by
 have CC := Z_ (fun (u : World) (l : List FFace) (a : Option Addr) (c : Nat) (hE : Ext w u) (h : AllIn 3 FaceIn u a l) (h1 : l.length ≤ c) (h2 : c ≤ maxLen) (h3 : ∀ f ∈ l, f.vars.length + f.procs.length < maxLen) => check_any s u l a c hs (hv.ext hE) (hm.ext hE) h h1 h2 h3); have CO := Z_ (fun (u : World) (hE : Ext w u) => ofq.of_any s u hs (hv.ext hE) (hm.ext hE)); have CM := Z_ (fun (u : World) (v : Value) (hE : Ext w u) (hx : FaceAt u m v) => face.may_any m v u hx hsm (hv.ext hE) (hm.ext hE)); have HSAME := Z_ (fun h0 hi hm hd => more_same s l m h0 hi hm hd); have HBAD := Z_ (bad_code s l); have HKD := Z_ (ok_kind s l); have HS := Z_ hs; have h1 := check_any ⟨#[109, 111, 100, 117, 108, 101, 32, 109, 59]⟩; have HC0 := Z_ (fun (u : World) (hE : Ext w u) => check_any ⟨#[109, 111, 100, 117, 108, 101, 32, 109, 59]⟩ u [] none 0 (by decide) (hv.ext hE) (hm.ext hE) (fun j hj => by cases hj) (Nat.le_refl _) (by decide) (fun f hf => by cases hf))
 clear hs hv hm h1; have HLIT := Z_ lit_ok; obtain ⟨T0, hT0⟩ : ∃ T0, checkF ⟨#[109, 111, 100, 117, 108, 101, 32, 109, 59]⟩ [] = T0 := ⟨_, rfl⟩; obtain ⟨P0, hP0⟩ : ∃ P0, posC ⟨#[109, 111, 100, 117, 108, 101, 32, 109, 59]⟩ (givenF [] []) = P0 := ⟨_, rfl⟩; rw [hT0] at HC0 HLIT; rw [hP0] at HC0; clear hT0 hP0; obtain ⟨Q, hQ⟩ : ∃ Q, ofR s = Q := ⟨_, rfl⟩; rw [hQ] at CO HSAME HBAD; obtain ⟨fx, im, c, p⟩ := Q; replace HBAD := Z_ (show c ≠ 0 → codeT (checkF s l) ≠ 0 from HBAD.out); replace HSAME := Z_ (show c = 0 → m.modn ∉ im → mayFaceB m = true → (∀ f ∈ l, f.modn ≠ m.modn) → checkF s (l ++ [m]) = checkF s l ∧ posC s (givenF (l ++ [m]) []) = posC s (givenF l []) from HSAME.out); clear hQ; have HN := Z_ hn; have HL := Z_ hl; have HLC := Z_ hlc; have HCM := Z_ hcm; have HSUM := Z_ hsum; have HSM := Z_ hsm; have HSZ := Z_ hsz
 obtain ⟨ma, mc, mp, mq, rfl, hM1, hM2⟩ : ∃ ma mc mp mq, vm = .agg #[.string m.modn, .slice ma m.vars.length mc, .slice mp m.procs.length mq] ∧ True ∧ True := by
  obtain ⟨a, am, c, cm, rfl, -⟩ := hfm; exact ⟨_, _, _, _, rfl, trivial, trivial⟩
 clear hM1 hM2; obtain ⟨nv, hnv⟩ : ∃ nv, m.vars.length = nv := ⟨_, rfl⟩; obtain ⟨np, hnp⟩ : ∃ np, m.procs.length = np := ⟨_, rfl⟩; obtain ⟨mn, hmn⟩ : ∃ mn, m.modn = mn := ⟨_, rfl⟩; rw [hnv, hnp, hmn] at hfm; rw [hnv, hnp, hmn]; rw [hmn] at HSAME; have hE0 := (Chg.refl (fun _ => False) w).alloc (.cells #[.string mn, .slice ma nv mc, .slice mp np mq] 37); have HB0 := Z_ (Blk.made w #[.string mn, .slice ma nv mc, .slice mp np mq] 37); have HFM := Z_ (hfm.ext hE0); have HE0 := Z_ hE0; obtain ⟨B0, hB0⟩ : ∃ B0, w.heap.size = B0 := ⟨_, rfl⟩; rw [hB0] at HB0; have HNV := Z_ hnv; have HNP := Z_ hnp; clear hn hl hlc hcm hsum hsm hsz hfm hE0 hnv hnp; go_enter Tryz.func4, Tryz.ntmps4
 go_upto_region 1 with (fail)
 try rw [hB0]
 generalize w.alloc (.cells #[.string mn, .slice ma nv mc, .slice mp np mq] 37) = u0 at *; go_wp2_with fail
 refine (HC0.out u0 HE0.out).mono ?_
 rintro e w1 ⟨hE1, v1, rfl, hn1⟩; obtain ⟨k1, m1, a1, n1, c1, rfl⟩ := nd_tx hn1; rw [HLIT.out]; have hX1 := (hE1.alloc (.cells #[.int .i64 k1, .string ⟨#[109]⟩, .int .i64 m1, .slice a1 n1 c1] 24)).alloc (.cells #[.int .i64 (codeT T0), .int .i64 (posT P0 T0)] 27); have HE1 := Z_ (HE0.out.ext hX1); have HB1 := Z_ (HB0.out.ext hX1); have HM1 := Z_ (HFM.out.ext hX1); clear hE1 hn1 HC0 hX1 HB0 HFM HE0 hB0; go_upto_region 4 with (fail)
 generalize (w1.alloc (.cells #[.int .i64 k1, .string ⟨#[109]⟩, .int .i64 m1, .slice a1 n1 c1] 24)).alloc (.cells #[.int .i64 (codeT T0), .int .i64 (posT P0 T0)] 27) = u1 at *; go_wp2_with fail
 refine (CO.out u1 HE1.out).mono ?_
 rintro e w2 hO; obtain ⟨hE2, vF, vI, rfl, hf2, hi2⟩ := hO.post; replace hi2 : RowAt 1 StrIn im vI w2 := hi2; replace hf2 : FaceAt w2 fx vF := hf2; obtain ⟨ia, ic, rfl, hic, him, hii⟩ := hi2
 obtain ⟨xa, xc, xp, xq, rfl, -⟩ : ∃ ma mc mp mq, vF = .agg #[.string fx.modn, .slice ma fx.vars.length mc, .slice mp fx.procs.length mq] ∧ True := by
  obtain ⟨a, am, c, cm, rfl, -⟩ := hf2; exact ⟨_, _, _, _, rfl, trivial⟩
 have hX2 := ((Chg.refl (fun _ => False) w2).alloc (.cells #[.string fx.modn, .slice xa fx.vars.length xc, .slice xp fx.procs.length xq] 37)).alloc (.cells #[.int .i64 c, .int .i64 p] 27); have HF2 := Z_ (Blk.made2 w2 (.cells #[.string fx.modn, .slice xa fx.vars.length xc, .slice xp fx.procs.length xq] 37) #[.int .i64 c, .int .i64 p] 27)
 have HI2 := Z_ (show AllIn 1 StrIn _ ia im from fun j hj => by
  obtain ⟨b, o, e, hb, hx⟩ := hii j hj; exact ⟨b, o, e, Nat.lt_of_lt_of_le hb hX2.size, str_ext hX2 hb hx⟩)
 have HIM := Z_ (show im.length ≤ 9223372036854775807 from by unfold maxLen at him; omega); have HE2 := Z_ ((HE1.out.ext hE2).ext hX2); have HB2 := Z_ ((HB1.out.ext hE2).ext hX2); have HM2 := Z_ ((HM1.out.ext hE2).ext hX2); obtain ⟨X, hX⟩ : ∃ X, w2.heap.size = X := ⟨_, rfl⟩; rw [hX] at HF2; clear hO hE2 hf2 hic him hii hX2 HE1 HB1 HM1 CO; go_upto_region 5 with (fail)
 try rw [hX]
 generalize (w2.alloc (.cells #[.string fx.modn, .slice xa fx.vars.length xc, .slice xp fx.procs.length xq] 37)).alloc (.cells #[.int .i64 c, .int .i64 p] 27) = u2 at *; clear hX; have hCK := CC.out u2 l fa cap HE2.out (faces_ext HE2.out HL.out) (by rw [HN.out]; exact HLC.out) HCM.out HSUM.out; obtain ⟨TL, hTL⟩ : ∃ TL, checkF s l = TL := ⟨_, rfl⟩; obtain ⟨PL, hPL⟩ : ∃ PL, posC s (givenF l []) = PL := ⟨_, rfl⟩; rw [hTL] at hCK HBAD HKD HSAME; rw [hPL] at hCK HSAME; rw [HN.out] at hCK; have HCK := Z_ hCK; clear hTL hPL hCK; go_wp2_with fail
 refine HCK.out.mono ?_
 rintro e w3 ⟨hE3, v3, rfl, hn3⟩; have hn3' := hn3; obtain ⟨t3, m3, a3, n3, c3, rfl⟩ := nd_kd hn3'; have hX3 := (hE3.alloc (.cells #[.int .i64 (nodeT TL).kd, .string t3, .int .i64 m3, .slice a3 n3 c3] 24)).alloc (.cells #[.int .i64 (codeT TL), .int .i64 (posT PL TL)] 27); have hX3' := ((Chg.refl (fun _ => False) w3).alloc (.cells #[.int .i64 (nodeT TL).kd, .string t3, .int .i64 m3, .slice a3 n3 c3] 24)).alloc (.cells #[.int .i64 (codeT TL), .int .i64 (posT PL TL)] 27); have HN3 := Z_ (ndAt_keeps (Ext.keeps hX3') _ _ hn3); have HNB := Z_ ((Blk.made w3 #[.int .i64 (nodeT TL).kd, .string t3, .int .i64 m3, .slice a3 n3 c3] 24).alloc (.cells #[.int .i64 (codeT TL), .int .i64 (posT PL TL)] 27)); have HFB := Z_ (Blk.made2 w3 (.cells #[.int .i64 (nodeT TL).kd, .string t3, .int .i64 m3, .slice a3 n3 c3] 24) #[.int .i64 (codeT TL), .int .i64 (posT PL TL)] 27)
 have HE3 := Z_ (HE2.out.ext hX3); have HB3 := Z_ (HB2.out.ext hX3); have HM3 := Z_ (HM2.out.ext hX3); have HF3 := Z_ (HF2.out.ext hX3)
 have HI3 := Z_ (show AllIn 1 StrIn _ ia im from fun j hj => by
  obtain ⟨b, o, e, hb, hx⟩ := HI2.out j hj; exact ⟨b, o, e, Nat.lt_of_lt_of_le hb hX3.size, str_ext hX3 hb hx⟩)
 obtain ⟨Y, hY⟩ : ∃ Y, w3.heap.size = Y := ⟨_, rfl⟩; rw [hY] at HNB HFB; clear hE3 hn3 hn3' hX3 hX3' HCK HE2 HB2 HM2 HF2 HI2; go_upto_region 6 with (fail)
 try rw [hY]
 generalize (w3.alloc (.cells #[.int .i64 (nodeT TL).kd, .string t3, .int .i64 m3, .slice a3 n3 c3] 24)).alloc (.cells #[.int .i64 (codeT TL), .int .i64 (posT PL TL)] 27) = u3 at *; clear hY; have hfb := HFB.out.cell; have hf3 := HF3.out.cell; have hb3 := HB3.out.cell; by_cases hc : c = 0
 ·subst hc
  have HSM2 := Z_ (HSAME.out rfl); have HH := Z_ (has_any ia im _ ic mn u3 rfl HI3.out HIM.out); obtain ⟨hb, hhb⟩ : ∃ hb, hasB im mn = hb := ⟨_, rfl⟩; rw [hhb] at HH; have HHB := Z_ hhb; clear hhb HSAME HBAD HI3; go_upto_region 8 with (fail)
  go_wp2_with fail
  refine HH.out.mono ?_
  rintro e w4 ⟨rfl, hE4⟩; have HE4 := Z_ (HE3.out.ext hE4); have HB4 := Z_ (HB3.out.ext hE4); have HM4 := Z_ (HM3.out.ext hE4); have HNB4 := Z_ (HNB.out.ext hE4); have HFB4 := Z_ (HFB.out.ext hE4); have HN4 := Z_ (ndAt_keeps (Ext.keeps hE4) _ _ HN3.out); have hb4 := HB4.out.cell; clear hfb hf3 hb3 hE4 HH HE3 HB3 HM3 HNB HFB HN3 HF3; cases hb with
  | true =>
   have HIL := Z_ (has_len HHB.out); have HMY := Z_ (CM.out w4 _ HE4.out HM4.out); obtain ⟨mb, hmb⟩ : ∃ mb, mayFaceB m = mb := ⟨_, rfl⟩; rw [hmb] at HMY; clear hmb; go_wp2_with fail
   refine HMY.out.mono ?_
   rintro e w5 ⟨rfl, hE5⟩; have HE5 := Z_ (HE4.out.ext hE5); clear hE5 HMY; obtain ⟨il, hil⟩ : ∃ il, im.length = il := ⟨_, rfl⟩; rw [hil] at HIL; have hlen := HIL.out; have hlen2 : ((0 : Int) < (il : Int)) := by omega
   have hlen3 : decide ((0 : Int) < (il : Int)) = true := by simpa using hlen
   try rw [hil]
   cases mb with
   | true =>
    go_wp2_with fail
    go_ret
    exact ⟨by rw [← hlen3]; rfl, HE5.out⟩
   | false =>
    go_wp2_with fail
    go_ret
    exact ⟨rfl, HE5.out⟩
  | false =>
   obtain ⟨mb, hmb⟩ : ∃ mb, mayFaceB m = mb := ⟨_, rfl⟩; rw [hmb] at CM HSM2; have HMY := Z_ (CM.out w4 _ HE4.out HM4.out); clear hmb; go_wp2_with fail
   refine HMY.out.mono ?_
   rintro e w5 ⟨rfl, hE5⟩; have HE5 := Z_ (HE4.out.ext hE5); have HB5 := Z_ (HB4.out.ext hE5); have HM5 := Z_ (HM4.out.ext hE5); have HNB5 := Z_ (HNB4.out.ext hE5); have HFB5 := Z_ (HFB4.out.ext hE5); have HN5 := Z_ (ndAt_keeps (Ext.keeps hE5) _ _ HN4.out); have hb5 := HB5.out.cell; clear hE5 HMY hb4 HE4 HB4 HM4 HNB4 HFB4 HN4; cases mb with
   | false =>
    have HMY := Z_ (CM.out w5 _ HE5.out HM5.out); go_wp2_with fail
    refine HMY.out.mono ?_
    rintro e w6 ⟨rfl, hE6⟩; have HE6 := Z_ (HE5.out.ext hE6); clear hE6 HMY; go_wp2_with fail
    go_ret
    exact ⟨rfl, HE6.out⟩
   | true =>
    clear CM; replace HSM2 := Z_ (show (∀ f ∈ l, f.modn ≠ mn) → _ from fun h => HSM2.out (has_not HHB.out) rfl h); go_wp2_with fail
    go_loopw [14] (fun i wr => ∃ k : Nat, k ≤ n ∧ i = .int .i64 k ∧ Ext w5 wr ∧ ∀ q (h : q < l.length), q < k → l[q].modn ≠ mn) (fun i _ => n - (intOf i).toNat)
    case atStart => exact ⟨0, Nat.zero_le _, rfl, Chg.refl _ _, fun q _ h => by omega⟩
    case round =>
     obtain ⟨k, hk, rfl, hE, hr⟩ := hrel; have HR := Z_ hr; have hnb : n ≤ 9223372036854775807 := by have := HSZ.out; omega
     have hb6 := (HB5.out.ext hE).cell; clear hr hb5; by_cases hlt : k < n
     ·have hkl : k < l.length := by rw [HN.out]; exact hlt
      obtain ⟨b, o, rfl, hb, hc⟩ := HL.out k hkl; obtain ⟨a9, m9, c9, d9, c0, -⟩ := FaceIn.ext (HE5.out.ext hE) hb hc; clear hc; have hlt2 : ((k : Int) < (n : Int)) := by omega
      have HO := Z_ (fun (h : l[k].modn ≠ mn) q (hq : q < l.length) (h2 : q < k + 1) => show l[q].modn ≠ mn by
       by_cases e : q = k
       ·subst e; exact h
       ·exact HR.out q hq (by omega))
      generalize l[k] = x at *; obtain ⟨xm, xv, xp9⟩ := x; simp only at c0 HO; by_cases hs : xm = mn
      ·subst hs
       go_wp2_with fail
       go_quiet (fail)
       go_wp2_with fail
       go_ret
       exact ⟨rfl, HE5.out.ext (hE.drewN _)⟩
      ·have h0 : (xm.toList == mn.toList) = false := by rw [ByteArray.toList_eq, ByteArray.toList_eq]; simpa [ByteArray.ext_iff] using hs
       have h1 : (xm.data.toList == mn.data.toList) = false := by simpa [ByteArray.ext_iff] using hs
       have HS9 := Z_ hs; clear hs; go_wp2_with fail
       go_quiet (fail)
       go_wp2_with fail
       go_roundw
       case rel => exact ⟨k + 1, by omega, by go_num, hE.drewN _, HO.out HS9.out⟩
       case measure => simp [intOf]; omega
     ·obtain rfl : k = n := by omega
      have HALL := Z_ (show ∀ f ∈ l, f.modn ≠ mn from fun f hf => by
       obtain ⟨q, hq, rfl⟩ := List.mem_iff_getElem.1 hf; exact HR.out q hq (by rw [← HN.out]; exact hq))
      have HE6 := Z_ (HE5.out.ext hE); have HB6 := Z_ (HB5.out.ext hE); have HM6 := Z_ (HM5.out.ext hE); have HNB6 := Z_ (HNB5.out.ext hE); have HFB6 := Z_ (HFB5.out.ext hE); have HN6 := Z_ (ndAt_keeps (Ext.keeps hE) _ _ HN5.out); clear HR hE HE5 HB5 HM5 HNB5 HFB5 HN5 hb6; go_upto_region 15 with (fail)
      obtain ⟨xs, hxl, hx1, hx2, hx3⟩ : ∃ xs : List Value, xs.length = k * 3 ∧ (∀ b o, fa = some ⟨b, o, none⟩ → ∀ j v, xs[j]? = some v → wr.cell? ⟨b, o + j, none⟩ = some v) ∧ (∀ u ∈ xs, u.oneCell' = true) ∧ (0 < k → ∃ b o, fa = some ⟨b, o, none⟩ ∧ xs[0]? ≠ some (.string mn)) := faces_xs HN.out (faces_ext HE6.out HL.out) HALL.out; have HXL := Z_ hxl; have HX1 := Z_ hx1; have HX2 := Z_ hx2; have HX3 := Z_ hx3; have hkb : k ≤ 1048576 := HSZ.out; clear hxl hx1 hx2 hx3; refine wp_region_weave [0, 2, 5, 6] (SpW fa k cap #[.string mn, .slice ma nv mc, .slice mp np mq]) (WF wr k xs [.string mn, .slice ma nv mc, .slice mp np mq]) (GW #[.string mn, .slice ma nv mc, .slice mp np mq]) (frame := ?fraA) (fun x => ?hfaA) synw.mixed (by kernel_rfl) (by kernel_rfl) (fun _ _ _ _ h h2 => spw_stab _ _ _ _ h h2) ?h0A ?stA ?finA
      case hfaA =>
       simp only [chain.frameOf, chain.fill, chain.setOpt, chain.dstOf, List.size_toArray, List.length_cons, List.length_nil, List.getElem?_toArray, List.getElem?_cons_succ, List.getElem?_cons_zero, List.setIfInBounds_toArray, List.set_cons_succ, List.set_cons_zero]; exact rfl
      case h0A => exact (Chg.refl _ _).drew
      case stA =>
       refine AllFrom.cons (fun x vs u hF hm hb hd K' hK' => ?sA0) (AllFrom.cons (fun x vs u hF hm hb hd K' hK' => ?sA1) (AllFrom.cons (fun x vs u hF hm hb hd K' hK' => ?sA2) (AllFrom.cons (fun x vs u hF hm hb hd K' hK' => ?sA3) (AllFrom.cons (fun x vs u hF hm hb hd K' hK' => ?sA4) (AllFrom.cons (fun x vs u hF hm hb hd K' hK' => ?sA5) (AllFrom.cons (fun x vs u hF hm hb hd K' hK' => ?sA6) AllFrom.nil))))))
       case sA0 =>
        obtain rfl := List.eq_nil_of_length_eq_zero (hm 0 (by kernel_rfl)); have HF := Z_ hF; clear hd hm hb hF; go_simp; exact hK'.out _ _ _ rfl (gw_ext ((Chg.refl _ _).alloc _)) ⟨Chg.alloc HF.out _, _, rfl, Blk.made _ _ _, HF.out.size⟩
       case sA1 =>
        have HF := Z_ hF; clear hd hm hb hF; go_simp; exact hK'.out _ _ _ rfl (gw_ext (Chg.refl _ _)) ⟨rfl, HF.out⟩
       case sA2 =>
        obtain ⟨v0, rfl⟩ : ∃ v0, vs = [v0] := by match vs, hm 1 (by kernel_rfl) with | [v0], _ => exact ⟨_, rfl⟩
        have y0 := hd 0 (by decide) (by kernel_rfl) 74 (by kernel_rfl); replace y0 : x 74 = v0 := y0; have y1 := hd 1 (by decide) (by kernel_rfl); replace y1 : x 75 = .slice fa k cap := y1; obtain ⟨hE9, g0, rfl, hb0, hg0⟩ := hF; obtain ⟨i0_, hi_, hz0, hz1, hz2⟩ := synw.info_split info_fc; rcases Nat.eq_zero_or_pos k with h0 | h0
        ·subst h0
         refine wp_append_none _ _ 33 rfl 37 i0_ Tryz.underlying33 hi_ _ 0 0 (Nat.le_refl _) y0 _ y1 (by rw [hz1]; exact src_none _) ?_
         obtain rfl : xs = [] := List.eq_nil_of_length_eq_zero HXL.out; exact hK'.out _ _ _ rfl (gw_ext (Chg.refl _ _)) ⟨hE9, ⟨rfl, .inr ⟨g0, 0, #[], rfl, hg0, hb0, Nat.le_refl _, by decide, rfl, rfl⟩⟩, fun _ => ⟨g0, rfl, hb0⟩⟩
        ·obtain ⟨b, o, rfl, hx0⟩ := HX3.out h0
         have how : u.ownsRow wr.heap.size 37 3 (.slice (some ⟨g0, 0, none⟩) 0 0) 0 [] := ⟨rfl, .inr ⟨g0, 0, #[], rfl, hg0, hb0, Nat.le_refl _, by decide, rfl, rfl⟩⟩; refine wp_append_lies _ _ _ 33 rfl (wr.heap.size) 37 i0_ (.agg #[.string ⟨#[]⟩, .slice none 0 0, .slice none 0 0]) 3 64 Tryz.underlying33 hi_ hz0 hz1 hz2 rfl (by decide) _ 0 [] y0 how ⟨b, o, none⟩ k cap xs y1 HXL.out ?_ HX2.out h0 (by unfold maxLen; omega) (by omega) hE9.size u.heap.size rfl ?_
         ·intro j q hj
          have h4 := HX1.out b o rfl j q hj; have e : (⟨b, o, none⟩ : Addr).add j = ⟨b, o + j, none⟩ := by unfold Addr.add; split <;> simp_all
          rw [e]; exact (Ext.keeps hE9).2 _ _ h4
         ·intro g9 c9 w9 ho9 hg9 ha9 hl9
          rw [Nat.zero_add] at ho9 ⊢; rw [List.nil_append] at ho9
          exact hK'.out _ _ _ rfl (gw_grown hg9 fun g' e => by
           obtain rfl : g0 = g' := by simpa [Value.ownBlock] using e
           exact nil_apart hb0) ⟨hE9.trans (grown_own hg9) (fun i hi e => by
            obtain rfl : g0 = i := by simpa [Value.ownBlock] using e
            omega), ho9, fun e => by omega⟩
       case sA3 =>
        have q0 := (HB6.out.ext hF.base).cell; have HF := Z_ hF; clear hd hm hb hF; go_simp; exact hK'.out _ _ _ rfl (gw_ext (Chg.refl _ _)) ⟨rfl, HF.out⟩
       case sA4 =>
        have y0 := hd 3 (by decide) (by kernel_rfl); replace y0 : x 77 = .agg #[.string mn, .slice ma nv mc, .slice mp np mq] := y0; have HF := Z_ hF; clear hd hm hb hF; go_simp; exact hK'.out _ _ _ (by simp only [y0]; rfl) (gw_ext ((Chg.refl _ _).alloc _)) ⟨⟨_, rfl, Blk.made _ _ _⟩, HF.out.alloc _⟩
       case sA5 =>
        obtain ⟨v0, v1, rfl⟩ : ∃ v0 v1, vs = [v0, v1] := by match vs, hm 2 (by kernel_rfl) with | [v0, v1], _ => exact ⟨_, _, rfl⟩
        have y0 := hd 2 (by decide) (by kernel_rfl) 76 (by kernel_rfl); replace y0 : x 76 = v1 := y0; have y1 := hd 4 (by decide) (by kernel_rfl); obtain ⟨g4, y1, hg4⟩ : ∃ g, x 78 = .slice (some ⟨g, 0, none⟩) 1 1 ∧ Blk u g #[.string mn, .slice ma nv mc, .slice mp np mq] 37 := y1; obtain ⟨hE9, how, hnil⟩ := hF; obtain ⟨i0_, hi_, hz0, hz1, hz2⟩ := synw.info_split info_fc; refine wp_append_lies _ _ _ 33 rfl (wr.heap.size) 37 i0_ (.agg #[.string ⟨#[]⟩, .slice none 0 0, .slice none 0 0]) 3 64 Tryz.underlying33 hi_ hz0 hz1 hz2 rfl (by decide) _ k xs y0 how ⟨g4, 0, none⟩ 1 1 [.string mn, .slice ma nv mc, .slice mp np mq] y1 rfl ?_ (by intro z_ hz_; simp only [List.mem_cons, List.not_mem_nil, or_false] at hz_; rcases hz_ with rfl | rfl | rfl <;> rfl) (by decide) (by unfold maxLen; omega) (by omega) hE9.size u.heap.size rfl ?_
        ·intro j q hj
         have e : (⟨g4, 0, none⟩ : Addr).add j = ⟨g4, j, none⟩ := by unfold Addr.add; split <;> simp_all
         rw [e, hg4.cell]; simpa using hj
        ·intro g9 c9 w9 ho9 hg9 ha9 hl9
         exact hK'.out _ _ _ rfl (gw_grown hg9 fun g' e => by
          rcases Nat.eq_zero_or_pos k with h0 | h0
          ·obtain ⟨g0, rfl, hb0⟩ := hnil h0
           obtain rfl : g0 = g' := by simpa [Value.ownBlock] using e
           exact nil_apart hb0
          ·obtain ⟨_, _, _, hx0⟩ := HX3.out h0
           exact row_apart how h0 hx0 e) ⟨hE9.trans (grown_own hg9) (fun i hi e => by
            have := own_base how e; omega), ⟨_, _, rfl⟩, ho9⟩
       case sA6 =>
        obtain ⟨v0, v1, v2, rfl⟩ : ∃ v0 v1 v2, vs = [v0, v1, v2] := by match vs, hm 3 (by kernel_rfl) with | [v0, v1, v2], _ => exact ⟨_, _, _, rfl⟩
        have y0 := hd 5 (by decide) (by kernel_rfl) 79 (by kernel_rfl); replace y0 : x 79 = v2 := y0; have HF := Z_ hF; clear hd hm hb hF; go_simp; exact hK'.out _ _ _ (by simp only [y0]; rfl) (gw_ext (Chg.refl _ _)) ⟨rfl, HF.out⟩
      case finA =>
       intro x9 vs9 w9 hl9 hF9 hk9; obtain ⟨v0, v1, v2, v3, rfl⟩ : ∃ v0 v1 v2 v3, vs9 = [v0, v1, v2, v3] := by match vs9, hl9 with | [v0, v1, v2, v3], _ => exact ⟨_, _, _, _, rfl⟩
       obtain ⟨rfl, hE9, ⟨g9, c9, rfl⟩, ho9⟩ := hF9; have y6 := hk9 6 (by decide) 15 (by kernel_rfl); replace y6 : x9 15 = .slice (some ⟨g9, 0, none⟩) (k + 1) c9 := y6; obtain ⟨hw1, hw2, hw3⟩ := wide_in (l := l) (m := m) (xs := xs) (c := c9) hE9 (faces_ext HE6.out HL.out) (by rw [HXL.out, HN.out]) HX1.out (by rw [HNV.out, HNP.out, hmn]; exact HM6.out) (by rw [HNV.out, HNP.out, hmn, HN.out]; exact ho9); have HE9 := Z_ (HE6.out.ext hE9); have HNB9 := Z_ (HNB6.out.ext hE9); have HFB9 := Z_ (HFB6.out.ext hE9); have HN9 := Z_ (ndAt_keeps (Ext.keeps hE9) _ _ HN6.out)
       have hck := CC.out w9 (l ++ [m]) (some ⟨g9, 0, none⟩) c9 HE9.out hw1 (by rw [List.length_append]; exact hw2) hw3 (fun f hf => by
        rcases List.mem_append.1 hf with h | h
        ·exact HSUM.out f h
        ·obtain rfl : f = m := by simpa using h
         exact HSM.out)
       obtain ⟨hq1, hq2⟩ := HSM2.out HALL.out; rw [hq1, hq2, List.length_append, List.length_singleton, HN.out] at hck; have HCK := Z_ hck; clear hck hq1 hq2 hw1 hw2 hw3 hk9 hl9 hE9 ho9 CC HE6 HB6 HM6 HNB6 HFB6 HN6; go_wp2_with fail
       refine HCK.out.mono ?_
       rintro e w10 ⟨hE10, v10, rfl, hn10⟩; have hn10' := hn10; obtain ⟨t10, m10, a10, n10, c10, rfl⟩ := nd_kd hn10'; have hX10 := (hE10.alloc (.cells #[.int .i64 (nodeT TL).kd, .string t10, .int .i64 m10, .slice a10 n10 c10] 24)).alloc (.cells #[.int .i64 (codeT TL), .int .i64 (posT PL TL)] 27); have hX10' := ((Chg.refl (fun _ => False) w10).alloc (.cells #[.int .i64 (nodeT TL).kd, .string t10, .int .i64 m10, .slice a10 n10 c10] 24)).alloc (.cells #[.int .i64 (codeT TL), .int .i64 (posT PL TL)] 27); have HM10 := Z_ (ndAt_keeps (Ext.keeps hX10') _ _ hn10); have HMB := Z_ ((Blk.made w10 #[.int .i64 (nodeT TL).kd, .string t10, .int .i64 m10, .slice a10 n10 c10] 24).alloc (.cells #[.int .i64 (codeT TL), .int .i64 (posT PL TL)] 27)); have HGB := Z_ (Blk.made2 w10 (.cells #[.int .i64 (nodeT TL).kd, .string t10, .int .i64 m10, .slice a10 n10 c10] 24) #[.int .i64 (codeT TL), .int .i64 (posT PL TL)] 27)
       have HE10 := Z_ (HE9.out.ext hX10); have HNB10 := Z_ (HNB9.out.ext hX10); have HFB10 := Z_ (HFB9.out.ext hX10); have HN10 := Z_ (ndAt_keeps (Ext.keeps hX10) _ _ HN9.out); obtain ⟨Z, hZ⟩ : ∃ Z, w10.heap.size = Z := ⟨_, rfl⟩; rw [hZ] at HMB HGB; clear hE10 hn10 hn10' hX10 hX10' HCK HE9 HNB9 HFB9 HN9; go_upto_region 17 with (fail)
       try rw [hZ]
       generalize (w10.alloc (.cells #[.int .i64 (nodeT TL).kd, .string t10, .int .i64 m10, .slice a10 n10 c10] 24)).alloc (.cells #[.int .i64 (codeT TL), .int .i64 (posT PL TL)] 27) = u10 at *; clear hZ; have q1 := HNB10.out.cell; have q2 := HFB10.out.cell; have q3 := HMB.out.cell; have q4 := HGB.out.cell; have HKQ := Z_ HKD.out; have HCS := Z_ (synr.same_any (nodeT TL) _ _ u10 (fun _ => false) (fun _ => false) (ndAt_keeps (keeps_nohide _) _ _ HN10.out) (ndAt_keeps (keeps_nohide _) _ _ HM10.out)); obtain ⟨cT, hcT⟩ : ∃ cT, codeT TL = cT := ⟨_, rfl⟩; obtain ⟨pT, hpT⟩ : ∃ pT, posT PL TL = pT := ⟨_, rfl⟩; obtain ⟨kT, hkT⟩ : ∃ kT, (nodeT TL).kd = kT := ⟨_, rfl⟩; rw [hcT, hpT] at q2 q4; rw [hkT] at q1 q3 HCS; rw [hcT, hkT] at HKQ; have HCT := Z_ hcT; have HPT := Z_ hpT; have HKT := Z_ hkT; clear hcT hpT hkT HKD; go_wp2_with fail
       refine HCS.out.mono ?_
       rintro e w11 ⟨rfl, hE11⟩; have HE11 := Z_ (HE10.out.ext hE11); have w1' := (HNB10.out.ext hE11).cell; have w2' := (HFB10.out.ext hE11).cell; rw [HKT.out] at w1'; rw [HCT.out, HPT.out] at w2'; clear q1 q2 q3 q4 hE11 HCS HNB10 HFB10 HMB HGB HE10 HN10 HM10; by_cases hk1 : kT = 1
       ·have hk2 : (kT == 1) = true := by simpa using hk1
        clear hk1; go_wp2_with fail
        go_ret
        exact ⟨rfl, HE11.out⟩
       ·have hk2 : (kT == 1) = false := by simpa using hk1
        have hc2 : (cT != 0) = true := by
         rw [bne_iff_ne]; exact fun e => hk1 (HKQ.out e)
        clear hk1; go_wp2_with fail
        go_ret
        exact ⟨by rw [← hc2]; rfl, HE11.out⟩
 ·have hcn : (c != 0) = true := by simpa using hc
  have hcd : (codeT TL != 0) = true := by simpa using HBAD.out hc
  obtain ⟨cT, hcT⟩ : ∃ cT, codeT TL = cT := ⟨_, rfl⟩; rw [hcT] at hcd hfb; go_wp2_with fail
  go_ret
  exact ⟨by rw [← hcd]; rfl, HE3.out⟩
end checkMore
end Go.Proofs.YtpcihajmcejliacGreatDoor
namespace Go.Proofs.YtpcihajmcejliacGreatDoor.facesOpen
open Go.ChangeShapes Go.WideShapes Go.Deep Go.RowKit Go.Proofs.YtpcihajmcejliacGreatDoor
structure Bulk {H : Type} (bk : DataW H → Nat) (bka : List (DataW H) → Nat) : Prop where
 str : ∀ l, bk (.lit (.string l)) = l.length + 1
 int : ∀ k n, bk (.lit (.int k n)) = 1
 bool : ∀ b, bk (.lit (.bool b)) = 1
 nil : bk .nil = 1
 slice : ∀ E S, bk (.slice E S) = bka E + bka S + 1
 agg : ∀ E, bk (.agg E) = bka E + 1
 none : bka [] = 0
 cons : ∀ d r, bka (d :: r) = bk d + bka r
 pos : ∀ d, 1 ≤ bk d
variable {H : Type} {enc : TypeId × Value → H} {w : World} {base : Nat} {spare : Nat → Bool} {held : Bool} {bk : DataW H → Nat} {bka : List (DataW H) → Nat}
theorem sums {α : Type} (B : Bulk bk bka) (f : α → List UInt8) (Z : Nat → α) (D : Nat → DataW H) : ∀ is : List Nat, (∀ i ∈ is, (f (Z i)).length ≤ 9 * bk (D i)) → ((is.map Z).flatMap f).length ≤ 9 * bka (is.map D) := by
 intro is; induction is with
 | nil => intro _; simp
 | cons i r ih =>
  intro h; rw [List.map_cons, List.map_cons, List.flatMap_cons, List.length_append, B.cons]; have h1 := h i (List.mem_cons_self ..); have h2 := ih fun j hj => h j (List.mem_cons_of_mem _ hj)
  omega
theorem parts (B : Bulk bk bka) (D : Nat → DataW H) : ∀ is : List Nat, is.length ≤ bka (is.map D) ∧ ∀ i ∈ is, bk (D i) ≤ bka (is.map D) := by
 intro is; induction is with
 | nil => exact ⟨Nat.zero_le _, fun i hi => by cases hi⟩
 | cons i r ih =>
  rw [List.map_cons, B.cons, List.length_cons]; have h1 := B.pos (D i); refine ⟨by have := ih.1; omega, fun j hj => ?_⟩
  rcases List.mem_cons.1 hj with rfl | hj
  ·omega
  ·have := ih.2 j hj; omega
theorem open_rows {α : Type} [Inhabited α] (B : Bulk bk bka) {In : World → Nat → Nat → α → Prop} {N : α → Prop} {f : α → List UInt8} {g : α → Nat} {t e : TypeId} {k fuel : Nat} {u : Value} {x : DataW H × List MemPlace} (hk : 0 < k) (ht : Tryz.prog.underlying t = some (.slice e)) (hc : Tryz.prog.cellsOf e = k)
  (h : DataW.trod enc Tryz.prog w base spare held fuel t [u] = some x)
  (each : ∀ (n : Nat) (cs : List Value) (y : DataW H × List MemPlace), DataW.trod enc Tryz.prog w base spare held n e cs = some y → ∃ z : α, (∀ b o, b < w.heap.size → (∀ j, j < k → w.cell? ⟨b, o + j, none⟩ = cs[j]?) → In w b o z) ∧ N z ∧ (f z).length ≤ 9 * bk y.1 ∧ g z ≤ bk y.1) :
  ∃ a l cap, u = .slice a l.length cap ∧ AllIn k In w a l ∧ l.length ≤ cap ∧ cap ≤ maxLen ∧ (∀ z ∈ l, N z) ∧ 8 + (l.flatMap f).length ≤ 9 * bk x.1 ∧ l.length ≤ bk x.1 ∧ ∀ z ∈ l, g z ≤ bk x.1 := by
 rcases open_slice ht h with ⟨h0, rfl⟩ | ⟨a, len, cap, m, n, D, Pl, h0, hb, hl, hm, hmm, rfl, hx⟩
 ·cases h0
  refine ⟨none, [], 0, rfl, fun j hj => absurd hj (Nat.not_lt_zero _), Nat.zero_le _, Nat.zero_le _, ?_, ?_, Nat.zero_le _, ?_⟩
  ·intro z hz; cases hz
  ·show 8 + 0 ≤ 9 * bk .nil
   rw [B.nil]; omega
  ·intro z hz; cases hz
 ·cases h0
  have hlm : len ≤ m := by rw [hmm]; split <;> omega
  rw [hc] at hx
  have hZ : ∀ i, i < m → ∃ z : α, (∀ b o, a = ⟨b, o, none⟩ → b < w.heap.size → In w b (o + i * k) z) ∧ N z ∧ (f z).length ≤ 9 * bk (D i) ∧ g z ≤ bk (D i) := by
   intro i hi; obtain ⟨cs', h1, h2⟩ := hx i hi; obtain ⟨z, hz, hz2⟩ := each n cs' _ h2; refine ⟨z, fun b o e hb => hz b _ hb fun j hj => ?_, hz2⟩
   subst e; obtain ⟨_, _, h3⟩ := World.cells?_some h1; have := h3 j hj; rw [add_add] at this; rw [← this]; unfold Addr.add; split
   ·rename_i h0
    rw [show o + i * k + j = o by omega]
   ·simp [Nat.add_assoc]
  obtain ⟨Z, hZ⟩ := choose_lt hZ; have hp := parts B D (List.range len); have hsz : bk (DataW.slice ((List.range len).map D) ((List.range (m - len)).map fun j => D (len + j))) = bka ((List.range len).map D) + bka ((List.range (m - len)).map fun j => D (len + j)) + 1 := B.slice _ _
  have hZ2 : ∀ z ∈ (List.range len).map Z, ∃ i, i < len ∧ Z i = z := fun z hz => by
   obtain ⟨i, hi, e⟩ := List.mem_map.1 hz; exact ⟨i, by simpa using hi, e⟩
  refine ⟨some a, (List.range len).map Z, cap, by simp, fun j hj => ?_, by simpa using hl, hm, fun z hz => ?_, ?_, ?_, fun z hz => ?_⟩
  ·have hj' : j < len := by simpa using hj
   obtain ⟨b, off, spot⟩ := a; obtain ⟨cs', h1, _⟩ := hx 0 (by omega); obtain ⟨_, hlen, h3⟩ := World.cells?_some h1; have h4 := h3 0 hk; simp [Addr.add] at h4
   rw [List.getElem?_eq_getElem (by omega)] at h4; have hs := World.cell?_spot h4; simp only at hs; subst hs; have hblt := World.block_lt_of_cell? w _ h4; refine ⟨b, off, rfl, hblt, ?_⟩
   simpa using (hZ j (by omega)).1 b off rfl hblt
  ·obtain ⟨i, hi, rfl⟩ := hZ2 z hz
   exact (hZ i (by omega)).2.1
  ·have h1 := sums B f Z D (List.range len) fun i hi => (hZ i (by have : i < len := by simpa using hi
                                                                  omega)).2.2.1
   simp only
   omega
  ·have := hp.1
   simp only [List.length_map, List.length_range] at this ⊢; omega
  ·obtain ⟨i, hi, rfl⟩ := hZ2 z hz
   have h1 := (hZ i (by omega)).2.2.2; have h2 := hp.2 i (List.mem_range.2 hi); simp only
   omega
theorem cI : Tryz.prog.cellsOf 3 = 1 := by kernel_rfl
theorem cV : Tryz.prog.cellsOf 70 = 4 := by kernel_rfl
theorem cP : Tryz.prog.cellsOf 68 = 6 := by kernel_rfl
theorem cF : Tryz.prog.cellsOf 37 = 3 := by kernel_rfl
theorem ok_wf {n : Int} (h : (Lit.int .i64 n).wf = true) : inI n := by
 unfold inI; simpa [Lit.wf, IntKind.min, IntKind.max, IntKind.signed, IntKind.bits] using h
theorem size_data (s : ByteArray) : s.data.toList.length = s.size := by rw [Array.length_toList]; rfl
set_option maxRecDepth 100000 in
theorem open_ints (B : Bulk bk bka) {fuel : Nat} {u : Value} {x : DataW H × List MemPlace} (h : DataW.trod enc Tryz.prog w base spare held fuel 46 [u] = some x) :
  ∃ a l cap, u = .slice a l.length cap ∧ AllIn 1 IntIn w a l ∧ l.length ≤ cap ∧ cap ≤ maxLen ∧ (∀ z ∈ l, inI z) ∧ 8 + (l.flatMap num8).length ≤ 9 * bk x.1 ∧ l.length ≤ bk x.1 ∧ ∀ z ∈ l, (fun _ : Int => 0) z ≤ bk x.1 :=
 open_rows B (In := IntIn) (k := 1) (by decide) Tryz.underlying46 cI h fun n cs y hy => by
  obtain ⟨z, rfl, e, hw⟩ := DataW.trod_int Tryz.underlying3 hy; subst e; exact ⟨z, fun b o _ hc => hc 0 (by decide), ok_wf hw, by simp only [B.int]; rw [obj.num8_len]; decide, Nat.zero_le _⟩
set_option maxRecDepth 100000 in
theorem open_vars (B : Bulk bk bka) {fuel : Nat} {u : Value} {x : DataW H × List MemPlace} (h : DataW.trod enc Tryz.prog w base spare held fuel 34 [u] = some x) :
  ∃ a l cap, u = .slice a l.length cap ∧ AllIn 4 VarIn w a l ∧ l.length ≤ cap ∧ cap ≤ maxLen ∧ (∀ z ∈ l, inI z.label ∧ inI z.size) ∧ 8 + (l.flatMap varL).length ≤ 9 * bk x.1 ∧ l.length ≤ bk x.1 ∧ ∀ z ∈ l, (fun _ : FVar => 0) z ≤ bk x.1 :=
 open_rows B (In := VarIn) (k := 4) (by decide) Tryz.underlying34 cV h fun n cs y hy => by
  obtain ⟨xs, n', _, hxx, hl, hlen, hf⟩ := DataW.trod_struct Tryz.underlying70 hy; rw [cV] at hl; replace hlen : xs.length = 4 := hlen; match cs, hl, xs, hlen with
  | [v0, v1, v2, v3], _, [y0, y1, y2, y3], _ =>
   have g0 := hf 0 _ rfl; have g1 := hf 1 _ rfl; have g2 := hf 2 _ rfl; have g3 := hf 3 _ rfl; simp only [List.getElem?_cons_zero, List.getElem?_cons_succ] at g0 g1 g2 g3; obtain ⟨s, e0, f0, hs⟩ := DataW.trod_string Tryz.underlying9 g0; obtain ⟨b1, e1, f1⟩ := DataW.trod_bool Tryz.underlying4 g1; obtain ⟨i2, e2, f2, h2⟩ := DataW.trod_int Tryz.underlying3 g2; obtain ⟨i3, e3, f3, h3⟩ := DataW.trod_int Tryz.underlying3 g3; cases e0; cases e1; cases e2; cases e3; subst f0 f1 f2 f3
   refine ⟨⟨s, b1, i2, i3⟩, fun b o _ hc => ⟨hc 0 (by decide), hc 1 (by decide), hc 2 (by decide), hc 3 (by decide), hs⟩, ⟨ok_wf h2, ok_wf h3⟩, ?_, Nat.zero_le _⟩
   rw [hxx]; simp only [List.map_cons, List.map_nil, B.agg, B.cons, B.str, B.int, B.bool, B.none, size_data]; unfold varL; rw [List.length_append, List.length_append, obj.text_len, obj.truth_len, obj.numsL_len]; simp only [List.length_cons, List.length_nil]; omega
set_option maxRecDepth 100000 in
theorem open_procs (B : Bulk bk bka) {fuel : Nat} {u : Value} {x : DataW H × List MemPlace} (h : DataW.trod enc Tryz.prog w base spare held fuel 35 [u] = some x) :
  ∃ a l cap, u = .slice a l.length cap ∧ AllIn 6 ProcIn w a l ∧ l.length ≤ cap ∧ cap ≤ maxLen ∧ (∀ z ∈ l, (∀ q ∈ z.params, inI q) ∧ inI z.writes ∧ inI z.given) ∧ 8 + (l.flatMap procL).length ≤ 9 * bk x.1 ∧ l.length ≤ bk x.1 ∧ ∀ z ∈ l, (fun _ : FProc => 0) z ≤ bk x.1 :=
 open_rows B (In := ProcIn) (k := 6) (by decide) Tryz.underlying35 cP h fun n cs y hy => by
  obtain ⟨xs, n', _, hxx, hl, hlen, hf⟩ := DataW.trod_struct Tryz.underlying68 hy; rw [cP] at hl; replace hlen : xs.length = 6 := hlen; match cs, hl, xs, hlen with
  | [v0, v1, v2, v3, v4, v5], _, [y0, y1, y2, y3, y4, y5], _ =>
   have g0 := hf 0 _ rfl; have g1 := hf 1 _ rfl; have g2 := hf 2 _ rfl; have g3 := hf 3 _ rfl; have g4 := hf 4 _ rfl; have g5 := hf 5 _ rfl; simp only [List.getElem?_cons_zero, List.getElem?_cons_succ] at g0 g1 g2 g3 g4 g5; obtain ⟨s, e0, f0, hs⟩ := DataW.trod_string Tryz.underlying9 g0; obtain ⟨b1, e1, f1⟩ := DataW.trod_bool Tryz.underlying4 g1; obtain ⟨a2, l2, c2, e2, h2, h3, h4, hn2, hL2, hl2, -⟩ := open_ints B g2; obtain ⟨i3, e3, f3, k3⟩ := DataW.trod_int Tryz.underlying3 g3; obtain ⟨b4, e4, f4⟩ := DataW.trod_bool Tryz.underlying4 g4; obtain ⟨i5, e5, f5, k5⟩ := DataW.trod_int Tryz.underlying3 g5; cases e0; cases e1; subst e2; cases e3; cases e4; cases e5; subst f0 f1 f3 f4 f5
   refine ⟨⟨s, b1, l2, i3, b4, i5⟩, fun b o _ hc => ⟨hc 0 (by decide), hc 1 (by decide), ⟨a2, c2, hc 2 (by decide), h2, h3, h4⟩, hc 3 (by decide), hc 4 (by decide), hc 5 (by decide), hs⟩, ⟨hn2, ok_wf k3, ok_wf k5⟩, ?_, Nat.zero_le _⟩
   rw [hxx]; simp only [List.map_cons, List.map_nil, B.agg, B.cons, B.str, B.int, B.bool, B.none, size_data]; have e : (numsL l2).length = (l2.flatMap num8).length := rfl; unfold procL
   repeat rw [List.length_append]
   rw [obj.text_len, obj.truth_len, obj.truth_len, obj.num8_len, obj.num8_len, obj.num8_len, e]; simp only
   omega
set_option maxRecDepth 100000 in
theorem open_face (B : Bulk bk bka) {cs : List Value} {y : DataW H × List MemPlace} {n : Nat} (hy : DataW.trod enc Tryz.prog w base spare held n 37 cs = some y) :
  ∃ (x : FFace) (a : Option Addr) (m : Nat) (c : Option Addr) (d : Nat), cs = [.string x.modn, .slice a x.vars.length m, .slice c x.procs.length d] ∧ FaceAt w x (.agg #[.string x.modn, .slice a x.vars.length m, .slice c x.procs.length d]) ∧ FaceNums x ∧ (faceL x).length ≤ 9 * bk y.1 ∧ x.vars.length + x.procs.length ≤ bk y.1 := by
 obtain ⟨xs, n', _, hxx, hl, hlen, hf⟩ := DataW.trod_struct Tryz.underlying37 hy; rw [cF] at hl; replace hlen : xs.length = 3 := hlen; match cs, hl, xs, hlen with
 | [v0, v1, v2], _, [y0, y1, y2], _ =>
  have g0 := hf 0 _ rfl; have g1 := hf 1 _ rfl; have g2 := hf 2 _ rfl; simp only [List.getElem?_cons_zero, List.getElem?_cons_succ] at g0 g1 g2; obtain ⟨s, e0, f0, hs⟩ := DataW.trod_string Tryz.underlying9 g0; obtain ⟨a1, l1, c1, e1, h1, h1c, h1m, N1, L1, K1, -⟩ := open_vars B g1; obtain ⟨a2, l2, c2, e2, h2, h2c, h2m, N2, L2, K2, -⟩ := open_procs B g2; cases e0; subst e1 e2 f0
  refine ⟨⟨s, l1, l2⟩, a1, c1, a2, c2, rfl, ⟨a1, c1, a2, c2, rfl, h1, h2, hs, h1c, h1m, h2c, h2m⟩, ⟨N1, N2⟩, ?_, ?_⟩
  ·rw [hxx]
   simp only [List.map_cons, List.map_nil, B.agg, B.cons, B.str, B.none, size_data]; unfold faceL
   repeat rw [List.length_append]
   rw [obj.text_len, obj.num8_len, obj.num8_len]; simp only
   omega
  ·rw [hxx]
   simp only [List.map_cons, List.map_nil, B.agg, B.cons, B.str, B.none]; omega
set_option maxRecDepth 100000 in
theorem open_faces (B : Bulk bk bka) {fuel : Nat} {u : Value} {x : DataW H × List MemPlace} (h : DataW.trod enc Tryz.prog w base spare held fuel 33 [u] = some x) :
  ∃ a l cap, u = .slice a l.length cap ∧ AllIn 3 FaceIn w a l ∧ l.length ≤ cap ∧ cap ≤ maxLen ∧ (∀ z ∈ l, FaceNums z) ∧ 8 + (l.flatMap faceL).length ≤ 9 * bk x.1 ∧ l.length ≤ bk x.1 ∧ ∀ z ∈ l, (fun f : FFace => f.vars.length + f.procs.length) z ≤ bk x.1 :=
 open_rows B (In := FaceIn) (k := 3) (by decide) Tryz.underlying33 cF h fun n cs y hy => by
  obtain ⟨z, a, m, c, d, rfl, h1, h2, h3, h4⟩ := open_face B hy; exact ⟨z, fun b o _ hc => ⟨a, m, c, d, hc 0 (by decide), hc 1 (by decide), hc 2 (by decide), h1⟩, h2, h3, h4⟩
set_option maxRecDepth 100000 in
theorem open_arg (B : Bulk bk bka) {v : Value} {d : DataW H} {p : List MemPlace} {r : Reach} {b0 : Nat} (hv : Value.okWide Tryz.prog w r b0 37 v) (h : DataW.Trod enc Tryz.prog w base spare held 37 v d p) :
  ∃ x : FFace, FaceAt w x v ∧ x.vars.length + x.procs.length ≤ bk d := by
 obtain ⟨cs, rfl, -⟩ := okWide_struct Tryz.underlying37 hv; obtain ⟨fuel, hf⟩ := h; obtain ⟨l⟩ := cs; obtain ⟨x, a, m, c, d', hcs, hF, -, -, hb⟩ := open_face B hf; obtain rfl : l = _ := hcs; exact ⟨x, hF, hb⟩
end Go.Proofs.YtpcihajmcejliacGreatDoor.facesOpen
