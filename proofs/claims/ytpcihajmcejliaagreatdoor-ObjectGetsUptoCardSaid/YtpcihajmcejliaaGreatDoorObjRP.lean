/- The walk of the reference's bytes of places. -/
import Derived.Test.YtpcihajmcejliaaGreatDoorObjRB
import Derived.Test.YtpcihajmcejliaaGreatDoorSpecs
namespace Go.Proofs.YtpcihajmcejliaaGreatDoor
open Go.RowKit
def inI (n : Int) : Prop := -9223372036854775808 ≤ n ∧ n ≤ 9223372036854775807
def PlcIn (w : World) (b o : Nat) (p : FPlc) : Prop := w.cell? ⟨b, o, none⟩ = some (.string p.name) ∧ w.cell? ⟨b, o + 1, none⟩ = some (.int .i64 p.at_) ∧ p.name.size ≤ maxLen ∧ inI p.at_
theorem PlcIn.ext {w w' : World} (hE : Ext w w') {b o : Nat} {x : FPlc} (hb : b < w.heap.size) (h : PlcIn w b o x) : PlcIn w' b o x := by
  unfold PlcIn at *
  rw [hE.cell (by exact hb) id, hE.cell (by exact hb) id]; exact h
namespace obj
theorem places_take (l : List FPlc) (k : Nat) (h : k < l.length) : (l.take (k + 1)).flatMap plcL = (l.take k).flatMap plcL ++ textL l[k].name ++ numsL [l[k].at_] := by
  rw [List.take_succ_eq_append_getElem h, List.flatMap_append, List.flatMap_cons, List.flatMap_nil, List.append_nil, plcL, List.append_assoc]
  simp [numsL]
theorem flat_len {α : Type} (f : α → List UInt8) (l : List α) (k : Nat) : ((l.take k).flatMap f).length ≤ (l.flatMap f).length := by
  conv => rhs; rw [← List.take_append_drop k l, List.flatMap_append, List.length_append]
  omega
set_option maxRecDepth 100000 in
set_option maxHeartbeats 8000000 in
theorem placesBytes_any (a : Option Addr) (l : List FPlc) (cap n : Nat) (w : World) (hn : l.length = n) (hl : AllIn 2 PlcIn w a l) (hs : (placesL l).length ≤ 1000000000000000) :
    Calls Tryz.prog 43 #[.slice a n cap] w fun e w' => e = .returned (.string ⟨(placesL l).toArray⟩) ∧ Ext w w' := by
  have HL := Lib.hid hl
  have HN := Lib.hid hn
  have hlen : (placesL l).length = 8 + (l.flatMap plcL).length := by unfold placesL; rw [List.length_append, num8_len]
  have HS := Lib.hid (show (l.flatMap plcL).length ≤ 1000000000000000 by omega)
  have hl8 : n ≤ 1000000000000000 := by
    have : ∀ m : List FPlc, m.length ≤ (m.flatMap plcL).length := by
      intro m
      induction m with
      | nil => exact Nat.le_refl _
      | cons x r ih => rw [List.flatMap_cons, List.length_append, List.length_cons, plcL, List.length_append, num8_len]; omega
    have := this l
    omega
  have HC := Lib.hid (fun w' (hl : NumsAt w' (some ⟨w.heap.size, 0, none⟩) [(n : Int)]) => numbers_any (some ⟨w.heap.size, 0, none⟩) [(n : Int)] 1 1 w' rfl hl (by decide))
  have hnL : numsL [(n : Int)] = num8 n := by simp [numsL]
  rw [hnL] at HC
  have HA := Lib.hid (show NumsAt (w.alloc (.cells #[.int .i64 n] 3)) (some ⟨w.heap.size, 0, none⟩) [(n : Int)] from NumsAt.ofBlk (Blk.made w #[.int .i64 n] 3) (fun x hx => by simp at hx; subst hx; omega))
  clear hl hn hs hlen hnL
  go_enter Tryz.func43, Tryz.ntmps43
  go_wp2_with (go_at_call 40; refine (HC.out _ HA.out).mono ?_; rintro e w2 ⟨rfl, hE2⟩)
  have hE0 : Ext w w2 := ((Chg.refl _ w).alloc _).then hE2
  go_loopw [3, 4] (fun s3 s4 wr => ∃ k : Nat, k ≤ n ∧ s4 = .int .i64 k ∧ s3 = .string ⟨(num8 n ++ (l.take k).flatMap plcL).toArray⟩ ∧ Ext w wr) (fun _ s4 _ => n - (intOf s4).toNat)
  case atStart => exact ⟨0, Nat.zero_le _, rfl, by simp, hE0⟩
  case round =>
    obtain ⟨k, hk, rfl, rfl, hEr⟩ := hrel
    by_cases hlt : k < n
    · have hkl : k < l.length := by rw [HN.out]; exact hlt
      obtain ⟨b, o, rfl, hb, hc⟩ := HL.out k hkl
      obtain ⟨c0, c1, hns, hib⟩ := PlcIn.ext hEr hb hc
      have HT := Lib.hid (places_take l k hkl)
      have hfl := flat_len plcL l (k + 1)
      have hbl' := Nat.lt_of_lt_of_le hb hEr.size
      have hki : (k : Int) < (n : Int) := by omega
      rw [HT.out] at hfl
      simp only [List.length_append] at hfl
      have hflo := Nat.le_trans hfl HS.out
      clear hc hfl
      obtain ⟨nm, hnm⟩ : ∃ x, l[k].name = x := ⟨_, rfl⟩
      obtain ⟨ix, hix⟩ : ∃ x, l[k].at_ = x := ⟨_, rfl⟩
      rw [hnm, hix] at HT hflo
      rw [hnm] at c0 hns
      rw [hix] at c1 hib
      obtain ⟨L, hL⟩ : ∃ x, num8 n ++ (l.take k).flatMap plcL = x := ⟨_, rfl⟩
      have hLL : L.length = 8 + ((l.take k).flatMap plcL).length := by rw [← hL, List.length_append, num8_len]
      have HT2 : Hid (num8 n ++ (l.take (k + 1)).flatMap plcL = L ++ (textL nm ++ numsL [ix])) := by
        unfold Hid
        rw [HT.out, ← hL]
        simp only [List.append_assoc]
      rw [hL]
      have h1 : L.length + (textL nm).length ≤ 1000000000000100 := by omega
      have h2 : (L ++ textL nm).length + (numsL [ix]).length ≤ 1000000000000100 := by simp only [List.length_append]; omega
      have h3 := numsL_len [ix]
      have hns : nm.size ≤ 2000000000000000 := by
        have : (textL nm).length = 8 + nm.size := by unfold textL; rw [List.length_append, num8_len, Array.length_toList]; rfl
        omega
      have q1 : ¬ 9223372036854775807 < L.length + (textL nm).length := by omega
      have q2 : ¬ 9223372036854775807 < L.length + (textL nm).length + 8 := by omega
      have q3 : ¬ 9223372036854775807 < L.length + ((textL nm).length + 8) := by omega
      have happ := ByteArray.mk_append_mk
      clear hnm hix HT hL hLL
      clear HS HC HA hE0 hE2
      go_upto_region 5 with (fail)
      refine wp_region_specs (fun i => ([.val (.string ⟨(L).toArray⟩), .val (.slice (some ⟨b, o, none⟩) n cap), .val (.int .i64 k), .val (.pointer (some ⟨b, o + k * 2, none⟩)), .val (.pointer (some ⟨b, o + k * 2, none⟩)), .val (.string nm), .val (.string ⟨(textL nm).toArray⟩), .val (.string ⟨(L ++ textL nm).toArray⟩), .val (.slice (some ⟨b, o, none⟩) n cap), .val (.int .i64 k), .val (.pointer (some ⟨b, o + k * 2, none⟩)), .val (.pointer (some ⟨b, o + k * 2 + 1, none⟩)), .val (.int .i64 ix), .row [.int .i64 ix] 1 3, .val (.string ⟨(numsL [ix]).toArray⟩), .val (.string ⟨(L ++ (textL nm ++ numsL [ix])).toArray⟩), .val (.string ⟨(L ++ (textL nm ++ numsL [ix])).toArray⟩)] : List Comes).getD i (.val undef)) (frame := ?fra) (fun x => ?hfa) (by kernel_rfl) (by kernel_rfl) ?sta ?fina
      case hfa =>
        simp only [specs.frameOf, specs.fill, specs.dstAt, List.size_toArray, List.length_cons, List.length_nil, List.getElem?_toArray, List.getElem?_cons_succ, List.getElem?_cons_zero, Option.getD_some, List.setIfInBounds_toArray, List.set_cons_succ, List.set_cons_zero]
        exact rfl
      case sta =>
        refine AllFrom.cons (fun x u hE hd hr K hK => ?sa0) (AllFrom.cons (fun x u hE hd hr K hK => ?sa1) (AllFrom.cons (fun x u hE hd hr K hK => ?sa2) (AllFrom.cons (fun x u hE hd hr K hK => ?sa3) (AllFrom.cons (fun x u hE hd hr K hK => ?sa4) (AllFrom.cons (fun x u hE hd hr K hK => ?sa5) (AllFrom.cons (fun x u hE hd hr K hK => ?sa6) (AllFrom.cons (fun x u hE hd hr K hK => ?sa7) (AllFrom.cons (fun x u hE hd hr K hK => ?sa8) (AllFrom.cons (fun x u hE hd hr K hK => ?sa9) (AllFrom.cons (fun x u hE hd hr K hK => ?sa10) (AllFrom.cons (fun x u hE hd hr K hK => ?sa11) (AllFrom.cons (fun x u hE hd hr K hK => ?sa12) (AllFrom.cons (fun x u hE hd hr K hK => ?sa13) (AllFrom.cons (fun x u hE hd hr K hK => ?sa14) (AllFrom.cons (fun x u hE hd hr K hK => ?sa15) (AllFrom.cons (fun x u hE hd hr K hK => ?sa16) AllFrom.nil))))))))))))))))
        case sa0 =>
          have z3 : x 3 = .string ⟨L.toArray⟩ := hr 16 _ rfl (by kernel_rfl)
          clear hd hr
          go_simp
          exact hK.out _ _ _ (by simp only [z3]; rfl) rfl (Chg.refl _ _)
        case sa1 =>
          clear hd hr
          go_simp
          exact hK.out _ _ _ rfl rfl (Chg.refl _ _)
        case sa2 =>
          clear hd hr
          go_simp
          exact hK.out _ _ _ rfl rfl (Chg.refl _ _)
        case sa3 =>
          have y16 : x 16 = .slice (some ⟨b, o, none⟩) n cap := hd 1 (by decide) (by kernel_rfl)
          have y17 : x 17 = .int .i64 k := hd 2 (by decide) (by kernel_rfl)
          clear hd hr
          go_simp
          exact hK.out _ _ _ (by simp only [y16, y17]; rfl) rfl (Chg.refl _ _)
        case sa4 =>
          have y18 : x 18 = .pointer (some ⟨b, o + k * 2, none⟩) := hd 3 (by decide) (by kernel_rfl)
          clear hd hr
          go_simp
          exact hK.out _ _ _ (by simp only [y18]; rfl) rfl (Chg.refl _ _)
        case sa5 =>
          have y19 : x 19 = .pointer (some ⟨b, o + k * 2, none⟩) := hd 4 (by decide) (by kernel_rfl)
          have c0 := (hE.cell (p := ⟨b, o + k * 2, none⟩) hbl' id).trans c0
          clear hd hr
          go_simp
          exact hK.out _ _ _ (by simp only [y19]; rfl) rfl (Chg.refl _ _)
        case sa6 =>
          have y20 : x 20 = .string nm := hd 5 (by decide) (by kernel_rfl)
          clear hd hr
          go_simp
          refine (text_any nm _ hns).mono ?_
          rintro e w2 ⟨rfl, hE2⟩
          exact hK.out _ _ _ (by simp only [y20]; rfl) rfl hE2
        case sa7 =>
          have y15 : x 15 = .string ⟨(L).toArray⟩ := hd 0 (by decide) (by kernel_rfl)
          have y21 : x 21 = .string ⟨(textL nm).toArray⟩ := hd 6 (by decide) (by kernel_rfl)
          clear hd hr
          go_simp
          exact hK.out _ _ _ (by simp only [y15, y21]; rfl) rfl (Chg.refl _ _)
        case sa8 =>
          clear hd hr
          go_simp
          exact hK.out _ _ _ rfl rfl (Chg.refl _ _)
        case sa9 =>
          clear hd hr
          go_simp
          exact hK.out _ _ _ rfl rfl (Chg.refl _ _)
        case sa10 =>
          have y23 : x 23 = .slice (some ⟨b, o, none⟩) n cap := hd 8 (by decide) (by kernel_rfl)
          have y24 : x 24 = .int .i64 k := hd 9 (by decide) (by kernel_rfl)
          clear hd hr
          go_simp
          exact hK.out _ _ _ (by simp only [y23, y24]; rfl) rfl (Chg.refl _ _)
        case sa11 =>
          have y25 : x 25 = .pointer (some ⟨b, o + k * 2, none⟩) := hd 10 (by decide) (by kernel_rfl)
          clear hd hr
          go_simp
          exact hK.out _ _ _ (by simp only [y25]; rfl) rfl (Chg.refl _ _)
        case sa12 =>
          have y26 : x 26 = .pointer (some ⟨b, o + k * 2 + 1, none⟩) := hd 11 (by decide) (by kernel_rfl)
          have c1 := (hE.cell (p := ⟨b, o + k * 2 + 1, none⟩) hbl' id).trans c1
          clear hd hr
          go_simp
          exact hK.out _ _ _ (by simp only [y26]; rfl) rfl (Chg.refl _ _)
        case sa13 =>
          have y27 : x 27 = .int .i64 ix := hd 12 (by decide) (by kernel_rfl)
          clear hd hr
          go_simp
          exact hK.out _ _ _ (by simp only [y27]; rfl) ⟨_, rfl, Blk.made _ _ _⟩ ((Chg.refl _ _).alloc _)
        case sa14 =>
          obtain ⟨g28, y28, b28⟩ : ∃ g, x 28 = .slice (some ⟨g, 0, none⟩) 1 1 ∧ Blk u g #[.int .i64 ix] 3 := hd 13 (by decide) (by kernel_rfl)
          clear hd hr
          go_simp
          refine (numbers_any (some ⟨g28, 0, none⟩) [ix] 1 1 _ rfl (NumsAt.ofBlk b28 (fun z hz => by simp at hz; subst hz; exact hib)) (by decide)).mono ?_
          rintro e w2 ⟨rfl, hE2⟩
          exact hK.out _ _ _ (by simp only [y28]; rfl) rfl hE2
        case sa15 =>
          have y22 : x 22 = .string ⟨(L ++ textL nm).toArray⟩ := hd 7 (by decide) (by kernel_rfl)
          have y29 : x 29 = .string ⟨(numsL [ix]).toArray⟩ := hd 14 (by decide) (by kernel_rfl)
          clear hd hr
          go_simp
          exact hK.out _ _ _ (by simp only [y22, y29]; rfl) rfl (Chg.refl _ _)
        case sa16 =>
          have y30 : x 30 = .string ⟨(L ++ (textL nm ++ numsL [ix])).toArray⟩ := hd 15 (by decide) (by kernel_rfl)
          clear hd hr
          go_simp
          exact hK.out _ _ _ (by simp only [y30]; rfl) rfl (Chg.refl _ _)
      case fina =>
        intro x u hE hs
        have y3 : x 3 = .string ⟨(L ++ (textL nm ++ numsL [ix])).toArray⟩ := hs 16 (by decide)
        go_wp2_with fail
        go_roundw
        case rel => exact ⟨k + 1, by omega, by go_num, by first | (rw [HT2.out]; done) | (rw [y3, HT2.out]), (hEr.then (Chg.refl _ _).drew).then hE⟩
        case measure => simp [intOf]; omega
    · obtain rfl : k = n := by omega
      have e : l.take k = l := List.take_of_length_le (by rw [HN.out]; exact Nat.le_refl _)
      rw [e]
      go_wp2_with fail
      go_ret
      exact ⟨by unfold placesL; rw [HN.out]; rfl, hEr⟩
end obj
end Go.Proofs.YtpcihajmcejliaaGreatDoor
