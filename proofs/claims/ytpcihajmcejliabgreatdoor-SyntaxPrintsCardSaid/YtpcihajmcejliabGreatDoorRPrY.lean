/- The reference's Show, of declarations. The reference's Show, of a procedure and a module. -/
import Derived.Test.YtpcihajmcejliabGreatDoorPrtE
import Derived.Test.YtpcihajmcejliabGreatDoorRPrV
namespace Go.Proofs.YtpcihajmcejliabGreatDoor
open Go.RowKit
namespace rpr
open synw synr prt
theorem pub_size (m : Int) : (pubS m).size ≤ 4 := by unfold pubS; split <;> decide
set_option maxRecDepth 100000 in
set_option maxHeartbeats 4000000 in
theorem sh_var {m : Int} {t : ByteArray} (ht : t.size ≤ 100) (v : Value) (w : World) (hx : NgAt w (.mk 3 t m []) v) :
  Calls Tryz.prog 97 #[v] w fun e w' => e = .returned (.string ((((pubS m ++ (labW (decide ((m : Int).tmod 2 = 1)) ++ bl1)) ++ t) ++ ⟨#[32, 59]⟩))) ∧ Ext w w' := by
 rw [ngAt_mk] at hx; obtain ⟨a, cc, rfl, hx1, hx2, hx3, hx4⟩ := hx; simp only [List.length_nil]; have hX1 := (Chg.refl (fun _ => False) w).alloc (.cells #[.int .i64 3, .string t, .int .i64 m, .slice a 0 cc] 66); have HA := Z_ (Blk.made w #[.int .i64 3, .string t, .int .i64 m, .slice a 0 cc] 66); have HX := Z_ hX1; obtain ⟨P, hP⟩ : ∃ P, w.heap.size = P := ⟨_, rfl⟩; rw [hP] at HA; obtain ⟨pS0, hpS0⟩ : ∃ p, pubS m = p := ⟨_, rfl⟩; have HP0 := Z_ hpS0; have hps0 : pS0.size ≤ 4 := by rw [← hpS0]; exact pub_size m
 rw [hpS0]; clear hpS0; have HLB := Z_ (label_any m); have hls : (labW (decide ((m : Int).tmod 2 = 1)) ++ bl1).size ≤ 10 := lab_size _; generalize labW (decide ((m : Int).tmod 2 = 1)) ++ bl1 = LS at *; clear hx1 hx2 hx3 hx4 hX1; go_enter Tryz.func97, Tryz.ntmps97
 go_upto_region 1 with (fail)
 try rw [hP]
 generalize w.alloc (.cells #[.int .i64 3, .string t, .int .i64 m, .slice a 0 cc] 66) = w1 at *; clear hP; have q1 := HA.out.cell; obtain ⟨pS, hpS⟩ : ∃ pS, pubS m = pS := ⟨_, rfl⟩; have HPS := Z_ hpS; go_upto_if 21 with (fail)
 go_cut [4] from 21 to 21 (fun s w' => s = .string pS ∧ w' = w1)
 case first =>
  unfold pubS at hpS; by_cases hp2 : 2 ≤ (m : Int).tmod 4
  ·rw [if_pos hp2] at hpS
   subst hpS; go_wp2_with fail
   go_meet
   exact ⟨rfl, rfl⟩
  ·rw [if_neg hp2] at hpS
   subst hpS; go_wp2_with fail
   go_meet
   exact ⟨rfl, rfl⟩
 case rest =>
  obtain ⟨rfl, rfl⟩ := hcut; clear hpS; generalize wc = w1 at *; obtain rfl : pS = pS0 := HPS.out.symm.trans HP0.out; go_upto_region 17 with (fail)
  clear q1; have HAD : Hid (∀ u, Ext w1.drew u → Blk u P #[.int .i64 3, .string t, .int .i64 m, .slice a 0 cc] 66) := fun u hE => HA.out.ext (((Chg.refl _ w1).drew).then hE)
  have HXD : Hid (∀ u, Ext w1.drew u → Ext w u) := fun u hE => HX.out.then (((Chg.refl _ w1).drew).then hE)
  refine wp_region_specs (fun i => ([.val (.string pS), .val (.pointer (some ⟨P, 2, none⟩)), .val (.int .i64 m), .val (.string (LS)), .val (.string (pS ++ (LS))), .val (.pointer (some ⟨P, 1, none⟩)), .val (.string t), .val (.string ((pS ++ (LS)) ++ t)), .val (.string ((pS ++ (LS)) ++ t))] : List Comes).getD i (.val undef)) (frame := ?frh) (fun x => ?hfh) (by kernel_rfl) (by kernel_rfl) ?sth ?finh
  case hfh =>
   simp only [specs.frameOf, specs.fill, specs.dstAt, List.size_toArray, List.length_cons, List.length_nil, List.getElem?_toArray, List.getElem?_cons_succ, List.getElem?_cons_zero, Option.getD_some, List.setIfInBounds_toArray, List.set_cons_succ, List.set_cons_zero]; exact rfl
  case sth =>
   refine AllFrom.cons (fun x u hE hd hr K hK => ?sh0) (AllFrom.cons (fun x u hE hd hr K hK => ?sh1) (AllFrom.cons (fun x u hE hd hr K hK => ?sh2) (AllFrom.cons (fun x u hE hd hr K hK => ?sh3) (AllFrom.cons (fun x u hE hd hr K hK => ?sh4) (AllFrom.cons (fun x u hE hd hr K hK => ?sh5) (AllFrom.cons (fun x u hE hd hr K hK => ?sh6) (AllFrom.cons (fun x u hE hd hr K hK => ?sh7) (AllFrom.cons (fun x u hE hd hr K hK => ?sh8) AllFrom.nil))))))))
   case sh0 =>
    clear hd hr; go_simp; exact hK.out _ _ _ rfl rfl (Chg.refl _ _)
   case sh1 =>
    clear hd hr; go_simp; exact hK.out _ _ _ rfl rfl (Chg.refl _ _)
   case sh2 =>
    have y57 : x 57 = .pointer (some ⟨P, 2, none⟩) := hd 1 (by decide) (by kernel_rfl); have hc := (HAD.out u hE).cell; clear hd hr; go_simp; exact hK.out _ _ _ (by simp only [y57]; rfl) rfl (Chg.refl _ _)
   case sh3 =>
    have y58 : x 58 = .int .i64 m := hd 2 (by decide) (by kernel_rfl); clear hd hr; go_simp; refine (HLB.out u).mono ?_
    rintro e w2 ⟨rfl, hE2⟩; exact hK.out _ _ _ (by simp only [y58]; rfl) rfl hE2
   case sh4 =>
    have y56 : x 56 = .string pS := hd 0 (by decide) (by kernel_rfl); have y59 : x 59 = .string (LS) := hd 3 (by decide) (by kernel_rfl); clear hd hr; go_simp
    try (rw [if_neg (by omega)])
    try go_simp
    exact hK.out _ _ _ (by simp only [y56, y59]; rfl) rfl (Chg.refl _ _)
   case sh5 =>
    clear hd hr; go_simp; exact hK.out _ _ _ rfl rfl (Chg.refl _ _)
   case sh6 =>
    have y61 : x 61 = .pointer (some ⟨P, 1, none⟩) := hd 5 (by decide) (by kernel_rfl); have hc := (HAD.out u hE).cell; clear hd hr; go_simp; exact hK.out _ _ _ (by simp only [y61]; rfl) rfl (Chg.refl _ _)
   case sh7 =>
    have y60 : x 60 = .string (pS ++ (LS)) := hd 4 (by decide) (by kernel_rfl); have y62 : x 62 = .string t := hd 6 (by decide) (by kernel_rfl); clear hd hr; go_simp
    try (rw [if_neg (by omega)])
    try go_simp
    exact hK.out _ _ _ (by simp only [y60, y62]; rfl) rfl (Chg.refl _ _)
   case sh8 =>
    have y63 : x 63 = .string ((pS ++ (LS)) ++ t) := hd 7 (by decide) (by kernel_rfl); clear hd hr; go_simp; exact hK.out _ _ _ (by simp only [y63]; rfl) rfl (Chg.refl _ _)
  case finh =>
   intro x u hE hs; have y8 : x 8 = .string ((pS ++ (LS)) ++ t) := hs 8 (by decide); go_wp2_with fail
   go_ret
   exact ⟨by first | rfl | (rw [y8]; rfl), HXD.out u hE⟩
set_option maxRecDepth 100000 in
set_option maxHeartbeats 4000000 in
theorem sh_arr {x : Nd} (hz0 : ShC x) (hb0 : (jB (showW x)).size ≤ 160000) {m : Int} {t : ByteArray} (ht : t.size ≤ 100) (v : Value) (w : World) (hx : NgAt w (.mk 3 t m [x]) v) :
  Calls Tryz.prog 97 #[v] w fun e w' => e = .returned (.string (((((((pubS m ++ (labW (decide ((m : Int).tmod 2 = 1)) ++ bl1)) ++ t) ++ ⟨#[32, 91, 32]⟩) ++ jB (showW x)) ++ ⟨#[32, 93]⟩) ++ ⟨#[32, 59]⟩))) ∧ Ext w w' := by
 rw [ngAt_mk] at hx; obtain ⟨a, cc, rfl, hx1, hx2, hx3, hx4⟩ := hx; simp only [List.length_cons, List.length_nil, Nat.zero_add]; obtain ⟨b, o, k0, t0, m0, a0, n0, c0, rfl, hn0, hq0⟩ := kid_ok hx4 0 (by simp)
 have HQ0 : Hid (∀ u, Ext w u → u.cell? ⟨b, o, none⟩ = some (.int .i64 k0) ∧ u.cell? ⟨b, o + 1, none⟩ = some (.string t0) ∧ u.cell? ⟨b, o + 2, none⟩ = some (.int .i64 m0) ∧ u.cell? ⟨b, o + 3, none⟩ = some (.slice a0 n0 c0)) := by
  intro u hE; have h := hq0 u hE; simpa using h
 have HN0 := Z_ hn0; clear hn0 hq0; have hX1 := (Chg.refl (fun _ => False) w).alloc (.cells #[.int .i64 3, .string t, .int .i64 m, .slice (some ⟨b, o, none⟩) 1 cc] 66); have HA := Z_ (Blk.made w #[.int .i64 3, .string t, .int .i64 m, .slice (some ⟨b, o, none⟩) 1 cc] 66); have HX := Z_ hX1; obtain ⟨P, hP⟩ : ∃ P, w.heap.size = P := ⟨_, rfl⟩; rw [hP] at HA; obtain ⟨pS0, hpS0⟩ : ∃ p, pubS m = p := ⟨_, rfl⟩; have HP0 := Z_ hpS0; have hps0 : pS0.size ≤ 4 := by rw [← hpS0]; exact pub_size m
 rw [hpS0]; clear hpS0; have HLB := Z_ (label_any m); have hls : (labW (decide ((m : Int).tmod 2 = 1)) ++ bl1).size ≤ 10 := lab_size _; generalize labW (decide ((m : Int).tmod 2 = 1)) ++ bl1 = LS at *; have HC0 := Z_ (fun (u : World) (hE : Ext w u) => hz0 _ u (ng_ext2 HN0.out hE)); generalize jB (showW x) = T0 at *; clear hz0 HN0; clear hx1 hx2 hx3 hx4 hX1; go_enter Tryz.func97, Tryz.ntmps97
 go_upto_region 1 with (fail)
 try rw [hP]
 generalize w.alloc (.cells #[.int .i64 3, .string t, .int .i64 m, .slice (some ⟨b, o, none⟩) 1 cc] 66) = w1 at *; clear hP; have q1 := HA.out.cell; obtain ⟨pS, hpS⟩ : ∃ pS, pubS m = pS := ⟨_, rfl⟩; have HPS := Z_ hpS; go_upto_if 21 with (fail)
 go_cut [4] from 21 to 21 (fun s w' => s = .string pS ∧ w' = w1)
 case first =>
  unfold pubS at hpS; by_cases hp2 : 2 ≤ (m : Int).tmod 4
  ·rw [if_pos hp2] at hpS
   subst hpS; go_wp2_with fail
   go_meet
   exact ⟨rfl, rfl⟩
  ·rw [if_neg hp2] at hpS
   subst hpS; go_wp2_with fail
   go_meet
   exact ⟨rfl, rfl⟩
 case rest =>
  obtain ⟨rfl, rfl⟩ := hcut; clear hpS; generalize wc = w1 at *; obtain rfl : pS = pS0 := HPS.out.symm.trans HP0.out; go_upto_region 17 with (fail)
  clear q1; have HAD : Hid (∀ u, Ext w1.drew u → Blk u P #[.int .i64 3, .string t, .int .i64 m, .slice (some ⟨b, o, none⟩) 1 cc] 66) := fun u hE => HA.out.ext (((Chg.refl _ w1).drew).then hE)
  have HXD : Hid (∀ u, Ext w1.drew u → Ext w u) := fun u hE => HX.out.then (((Chg.refl _ w1).drew).then hE)
  refine wp_region_specs (fun i => ([.val (.string pS), .val (.pointer (some ⟨P, 2, none⟩)), .val (.int .i64 m), .val (.string (LS)), .val (.string (pS ++ (LS))), .val (.pointer (some ⟨P, 1, none⟩)), .val (.string t), .val (.string ((pS ++ (LS)) ++ t)), .val (.string ((pS ++ (LS)) ++ t))] : List Comes).getD i (.val undef)) (frame := ?frz9) (fun x => ?hfz9) (by kernel_rfl) (by kernel_rfl) ?stz9 ?finz9
  case hfz9 =>
   simp only [specs.frameOf, specs.fill, specs.dstAt, List.size_toArray, List.length_cons, List.length_nil, List.getElem?_toArray, List.getElem?_cons_succ, List.getElem?_cons_zero, Option.getD_some, List.setIfInBounds_toArray, List.set_cons_succ, List.set_cons_zero]; exact rfl
  case stz9 =>
   refine AllFrom.cons (fun x u hE hd hr K hK => ?sz90) (AllFrom.cons (fun x u hE hd hr K hK => ?sz91) (AllFrom.cons (fun x u hE hd hr K hK => ?sz92) (AllFrom.cons (fun x u hE hd hr K hK => ?sz93) (AllFrom.cons (fun x u hE hd hr K hK => ?sz94) (AllFrom.cons (fun x u hE hd hr K hK => ?sz95) (AllFrom.cons (fun x u hE hd hr K hK => ?sz96) (AllFrom.cons (fun x u hE hd hr K hK => ?sz97) (AllFrom.cons (fun x u hE hd hr K hK => ?sz98) AllFrom.nil))))))))
   case sz90 =>
    clear hd hr; go_simp; exact hK.out _ _ _ rfl rfl (Chg.refl _ _)
   case sz91 =>
    clear hd hr; go_simp; exact hK.out _ _ _ rfl rfl (Chg.refl _ _)
   case sz92 =>
    have y57 : x 57 = .pointer (some ⟨P, 2, none⟩) := hd 1 (by decide) (by kernel_rfl); have hc := (HAD.out u hE).cell; clear hd hr; go_simp; exact hK.out _ _ _ (by simp only [y57]; rfl) rfl (Chg.refl _ _)
   case sz93 =>
    have y58 : x 58 = .int .i64 m := hd 2 (by decide) (by kernel_rfl); clear hd hr; go_simp; refine (HLB.out u).mono ?_
    rintro e w2 ⟨rfl, hE2⟩; exact hK.out _ _ _ (by simp only [y58]; rfl) rfl hE2
   case sz94 =>
    have y56 : x 56 = .string pS := hd 0 (by decide) (by kernel_rfl); have y59 : x 59 = .string (LS) := hd 3 (by decide) (by kernel_rfl); clear hd hr; go_simp
    try (rw [if_neg (by omega)])
    try go_simp
    exact hK.out _ _ _ (by simp only [y56, y59]; rfl) rfl (Chg.refl _ _)
   case sz95 =>
    clear hd hr; go_simp; exact hK.out _ _ _ rfl rfl (Chg.refl _ _)
   case sz96 =>
    have y61 : x 61 = .pointer (some ⟨P, 1, none⟩) := hd 5 (by decide) (by kernel_rfl); have hc := (HAD.out u hE).cell; clear hd hr; go_simp; exact hK.out _ _ _ (by simp only [y61]; rfl) rfl (Chg.refl _ _)
   case sz97 =>
    have y60 : x 60 = .string (pS ++ (LS)) := hd 4 (by decide) (by kernel_rfl); have y62 : x 62 = .string t := hd 6 (by decide) (by kernel_rfl); clear hd hr; go_simp
    try (rw [if_neg (by omega)])
    try go_simp
    exact hK.out _ _ _ (by simp only [y60, y62]; rfl) rfl (Chg.refl _ _)
   case sz98 =>
    have y63 : x 63 = .string ((pS ++ (LS)) ++ t) := hd 7 (by decide) (by kernel_rfl); clear hd hr; go_simp; exact hK.out _ _ _ (by simp only [y63]; rfl) rfl (Chg.refl _ _)
  case finz9 =>
   intro x u hE hs; have y8 : x 8 = .string ((pS ++ (LS)) ++ t) := hs 8 (by decide); have HE3 := Z_ (HXD.out u hE); have hq2c := (HAD.out u hE).cell; obtain ⟨r0, r1, r2, r3⟩ := HQ0.out u HE3.out; clear hE hs; go_wp2_with fail
   refine (HC0.out _ HE3.out).mono ?_
   rintro e w2 ⟨rfl, hE2⟩; clear hq2c r0 r1 r2 r3; go_wp2_with fail
   go_ret
   exact ⟨by first | rfl | (rw [y8]; rfl), HE3.out.ext hE2⟩
end rpr
end Go.Proofs.YtpcihajmcejliabGreatDoor
namespace Go.Proofs.YtpcihajmcejliabGreatDoor
open Go.RowKit
namespace rpr
open synw synr prt
def givS (m : Int) (S : ByteArray) : ByteArray := if 4 ≤ m then (S ++ ⟨#[103, 105, 118, 101, 115, 32]⟩) ++ (labW (decide ((m.tdiv 8).tmod 2 = 1)) ++ bl1) else S
def rndS (ps : List Nd) : ByteArray := if ps.length = 0 then ⟨#[40, 32, 41]⟩ else (⟨#[40, 32]⟩ ++ lstS ⟨#[32, 44, 32]⟩ 0 ps ⟨#[]⟩) ++ ⟨#[32, 41]⟩
def headS (m : Int) (t : ByteArray) (ps : List Nd) : ByteArray := ((((((pubS m ++ ⟨#[112, 114, 111, 99, 32]⟩) ++ t) ++ ⟨#[32]⟩) ++ rndS ps) ++ ⟨#[32]⟩) ++ (labW (decide ((m : Int).tmod 2 = 1)) ++ bl1))
set_option maxRecDepth 100000 in
set_option maxHeartbeats 4000000 in
theorem sh_proc {m : Int} {t : ByteArray} {ps : List Nd} {x : Nd} (ht : t.size ≤ 100) (h0 : 0 ≤ m) (h11 : m ≤ 11) (hl : ps.length ≤ 500) (hzp : ∀ y ∈ ps, ShC y) (hbp : ∀ y ∈ ps, (jB (showW y)).size ≤ 160000) (hz0 : ShC x) (hb0 : (jB (showW x)).size ≤ 160000) (v : Value) (w : World) (hx : NgAt w (.mk 4 t m (ps ++ [x])) v) :
  Calls Tryz.prog 97 #[v] w fun e w' => e = .returned (.string (givS m (headS m t ps) ++ jB (showW x))) ∧ Ext w w' := by
 rw [ngAt_mk] at hx; obtain ⟨a, cc, rfl, hx1, hx2, hx3, hx4⟩ := hx; obtain ⟨np, hnp⟩ : ∃ np, ps.length = np := ⟨_, rfl⟩; have hlen : (ps ++ [x]).length = np + 1 := by rw [List.length_append, hnp]; rfl
 obtain ⟨b, o, k0, t0, m0, a0, n0, c0, rfl, hn0, hq0⟩ := kid_ok hx4 np (by rw [hlen]; omega); have hgx : (ps ++ [x])[np]'(by rw [hlen]; omega) = x := by rw [List.getElem_append_right (by omega)]; simp [hnp]
 rw [hgx] at hn0; have HQ0 := Z_ hq0; have HN0 := Z_ hn0
 have HROW : Hid (∀ u, Ext w u → AllIn 4 NgIn u (some ⟨b, o, none⟩) ps) := by
  intro u hE j hj; have h := (hx4.keeps (ng_keep2 hE) fun b o y => ngIn_keeps (ng_keep2 hE) b o y) j (by rw [List.length_append]; omega); rw [List.getElem_append_left hj] at h; exact h
 rw [hlen] at hx1 ⊢; have HRD := Z_ (fun (u : World) (hE : Ext w u) => round_any ps hzp (some ⟨b, o, none⟩) cc u (HROW.out u hE) hl hbp); have hTs := lst_le ⟨#[32, 44, 32]⟩ (by decide) ps 0 ⟨#[]⟩ hbp
 have hRs : (rndS ps).size ≤ 80001600 := by
  have h9 : (⟨#[]⟩ : ByteArray).size = 0 := rfl; unfold rndS; split
  ·exact (show (3 : Nat) ≤ _ by decide)
  ·simp only [ByteArray.size_append]
   have h8 : (⟨#[40, 32]⟩ : ByteArray).size = 2 := rfl; have h7 : (⟨#[32, 41]⟩ : ByteArray).size = 2 := rfl; omega
 have HRD2 : Hid (∀ u, Ext w u → Calls Tryz.prog 178 #[.slice (some ⟨b, o, none⟩) ps.length cc] u fun e w' => e = .returned (.string (rndS ps)) ∧ Ext u w') := HRD.out; clear HRD; obtain ⟨pS0, hpS0⟩ : ∃ p, pubS m = p := ⟨_, rfl⟩; have HP0 := Z_ hpS0; have hps0 : pS0.size ≤ 4 := by rw [← hpS0]; exact pub_size m
 have HLB := Z_ (label_any m); have hls : (labW (decide ((m : Int).tmod 2 = 1)) ++ bl1).size ≤ 10 := lab_size _; have HLG := Z_ (label_any (m.tdiv 8)); have hlg : (labW (decide ((m.tdiv 8 : Int).tmod 2 = 1)) ++ bl1).size ≤ 10 := lab_size _; have HC0 := Z_ (fun (u : World) (hE : Ext w u) => hz0 _ u (ng_ext2 HN0.out hE)); unfold headS givS; rw [hpS0]; generalize labW (decide ((m.tdiv 8 : Int).tmod 2 = 1)) ++ bl1 = LG at *; generalize labW (decide ((m : Int).tmod 2 = 1)) ++ bl1 = LS at *; generalize jB (showW x) = T0 at *; generalize rndS ps = RT at *; rw [hnp] at HRD2 hl; have hlw : IntKind.i64.wrap (((np + 1 : Nat) : Int) - 1) = (np : Int) := by rw [wrap_small _ (by omega) (by omega)]; omega
 have hlw2 : wrap64 (((np + 1 : Nat) : Int) - 1) = (np : Int) := by unfold wrap64; omega
 have hdv : IntKind.i64.wrap (m.tdiv 8) = m.tdiv 8 := by
  rw [Int.tdiv_eq_ediv_of_nonneg h0]; exact wrap_small _ (by omega) (by omega)
 have hdv2 : wrap64 (m.tdiv 8) = m.tdiv 8 := by rw [Int.tdiv_eq_ediv_of_nonneg h0]; unfold wrap64; omega
 obtain ⟨R, hR⟩ : ∃ R, (if 4 ≤ m then ((pS0 ++ ⟨#[112, 114, 111, 99, 32]⟩ ++ t ++ ⟨#[32]⟩ ++ RT ++ ⟨#[32]⟩ ++ LS) ++ ⟨#[103, 105, 118, 101, 115, 32]⟩) ++ LG else (pS0 ++ ⟨#[112, 114, 111, 99, 32]⟩ ++ t ++ ⟨#[32]⟩ ++ RT ++ ⟨#[32]⟩ ++ LS)) = R := ⟨_, rfl⟩; rw [hR]; have HR := Z_ hR; have hX1 := (Chg.refl (fun _ => False) w).alloc (.cells #[.int .i64 4, .string t, .int .i64 m, .slice (some ⟨b, o, none⟩) (np + 1) cc] 66); have HA := Z_ (Blk.made w #[.int .i64 4, .string t, .int .i64 m, .slice (some ⟨b, o, none⟩) (np + 1) cc] 66); have HX := Z_ hX1; obtain ⟨P, hP⟩ : ∃ P, w.heap.size = P := ⟨_, rfl⟩; rw [hP] at HA; have hnpc : (np : Int) ≤ (cc : Int) := by omega
 have hnpl : np ≤ cc := by omega
 clear hx2 hx3 hx4 hX1 hR hpS0 hn0 hq0 hgx hlen hz0 hzp hbp hTs HN0 HROW hx1 h0 h11; go_enter Tryz.func97, Tryz.ntmps97
 go_upto_region 1 with (fail)
 try rw [hP]
 generalize w.alloc (.cells #[.int .i64 4, .string t, .int .i64 m, .slice (some ⟨b, o, none⟩) (np + 1) cc] 66) = w1 at *; clear hP; have q1 := HA.out.cell; go_upto_if 21 with (fail)
 go_cut [4] from 21 to 21 (fun s w' => s = .string pS0 ∧ w' = w1)
 case first =>
  have hpS := HP0.out; unfold pubS at hpS; by_cases hp2 : 2 ≤ (m : Int).tmod 4
  ·rw [if_pos hp2] at hpS
   subst hpS; go_wp2_with fail
   go_meet
   exact ⟨rfl, rfl⟩
  ·rw [if_neg hp2] at hpS
   subst hpS; go_wp2_with fail
   go_meet
   exact ⟨rfl, rfl⟩
 case rest =>
  obtain ⟨rfl, rfl⟩ := hcut; generalize wc = w1 at *; go_upto_region 22 with (fail)
  clear q1; have HAD : Hid (∀ u, Ext w1.drew u → Blk u P #[.int .i64 4, .string t, .int .i64 m, .slice (some ⟨b, o, none⟩) (np + 1) cc] 66) := fun u hE => HA.out.ext (((Chg.refl _ w1).drew).then hE)
  have HXD : Hid (∀ u, Ext w1.drew u → Ext w u) := fun u hE => HX.out.then (((Chg.refl _ w1).drew).then hE)
  refine wp_region_specs (fun i => ([.val (.string pS0), .val (.string (pS0 ++ ⟨#[112, 114, 111, 99, 32]⟩)), .val (.pointer (some ⟨P, 1, none⟩)), .val (.string t), .val (.string ((pS0 ++ ⟨#[112, 114, 111, 99, 32]⟩) ++ t)), .val (.string (((pS0 ++ ⟨#[112, 114, 111, 99, 32]⟩) ++ t) ++ ⟨#[32]⟩)), .val (.pointer (some ⟨P, 3, none⟩)), .val (.slice (some ⟨b, o, none⟩) (np + 1) cc), .val (.int .i64 np), .val (.slice (some ⟨b, o, none⟩) np cc), .val (.string (RT)), .val (.string ((((pS0 ++ ⟨#[112, 114, 111, 99, 32]⟩) ++ t) ++ ⟨#[32]⟩) ++ (RT))), .val (.string (((((pS0 ++ ⟨#[112, 114, 111, 99, 32]⟩) ++ t) ++ ⟨#[32]⟩) ++ (RT)) ++ ⟨#[32]⟩)), .val (.pointer (some ⟨P, 2, none⟩)), .val (.int .i64 m), .val (.string (LS)), .val (.string ((((((pS0 ++ ⟨#[112, 114, 111, 99, 32]⟩) ++ t) ++ ⟨#[32]⟩) ++ (RT)) ++ ⟨#[32]⟩) ++ (LS))), .val (.string ((((((pS0 ++ ⟨#[112, 114, 111, 99, 32]⟩) ++ t) ++ ⟨#[32]⟩) ++ (RT)) ++ ⟨#[32]⟩) ++ (LS)))] : List Comes).getD i (.val undef)) (frame := ?frh) (fun x => ?hfh) (by kernel_rfl) (by kernel_rfl) ?sth ?finh
  case hfh =>
   simp only [specs.frameOf, specs.fill, specs.dstAt, List.size_toArray, List.length_cons, List.length_nil, List.getElem?_toArray, List.getElem?_cons_succ, List.getElem?_cons_zero, Option.getD_some, List.setIfInBounds_toArray, List.set_cons_succ, List.set_cons_zero]; exact rfl
  case sth =>
   refine AllFrom.cons (fun x u hE hd hr K hK => ?sh0) (AllFrom.cons (fun x u hE hd hr K hK => ?sh1) (AllFrom.cons (fun x u hE hd hr K hK => ?sh2) (AllFrom.cons (fun x u hE hd hr K hK => ?sh3) (AllFrom.cons (fun x u hE hd hr K hK => ?sh4) (AllFrom.cons (fun x u hE hd hr K hK => ?sh5) (AllFrom.cons (fun x u hE hd hr K hK => ?sh6) (AllFrom.cons (fun x u hE hd hr K hK => ?sh7) (AllFrom.cons (fun x u hE hd hr K hK => ?sh8) (AllFrom.cons (fun x u hE hd hr K hK => ?sh9) (AllFrom.cons (fun x u hE hd hr K hK => ?sh10) (AllFrom.cons (fun x u hE hd hr K hK => ?sh11) (AllFrom.cons (fun x u hE hd hr K hK => ?sh12) (AllFrom.cons (fun x u hE hd hr K hK => ?sh13) (AllFrom.cons (fun x u hE hd hr K hK => ?sh14) (AllFrom.cons (fun x u hE hd hr K hK => ?sh15) (AllFrom.cons (fun x u hE hd hr K hK => ?sh16) (AllFrom.cons (fun x u hE hd hr K hK => ?sh17) AllFrom.nil)))))))))))))))))
   case sh0 =>
    clear hd hr; go_simp; exact hK.out _ _ _ rfl rfl (Chg.refl _ _)
   case sh1 =>
    have y79 : x 79 = .string pS0 := hd 0 (by decide) (by kernel_rfl); clear hd hr; go_simp
    try (rw [if_neg (by omega)])
    try go_simp
    exact hK.out _ _ _ (by simp only [y79]; rfl) rfl (Chg.refl _ _)
   case sh2 =>
    clear hd hr; go_simp; exact hK.out _ _ _ rfl rfl (Chg.refl _ _)
   case sh3 =>
    have y81 : x 81 = .pointer (some ⟨P, 1, none⟩) := hd 2 (by decide) (by kernel_rfl); have hc := (HAD.out u hE).cell; clear hd hr; go_simp; exact hK.out _ _ _ (by simp only [y81]; rfl) rfl (Chg.refl _ _)
   case sh4 =>
    have y80 : x 80 = .string (pS0 ++ ⟨#[112, 114, 111, 99, 32]⟩) := hd 1 (by decide) (by kernel_rfl); have y82 : x 82 = .string t := hd 3 (by decide) (by kernel_rfl); clear hd hr; go_simp
    try (rw [if_neg (by omega)])
    try go_simp
    exact hK.out _ _ _ (by simp only [y80, y82]; rfl) rfl (Chg.refl _ _)
   case sh5 =>
    have y83 : x 83 = .string ((pS0 ++ ⟨#[112, 114, 111, 99, 32]⟩) ++ t) := hd 4 (by decide) (by kernel_rfl); clear hd hr; go_simp
    try (rw [if_neg (by omega)])
    try go_simp
    exact hK.out _ _ _ (by simp only [y83]; rfl) rfl (Chg.refl _ _)
   case sh6 =>
    clear hd hr; go_simp; exact hK.out _ _ _ rfl rfl (Chg.refl _ _)
   case sh7 =>
    have y85 : x 85 = .pointer (some ⟨P, 3, none⟩) := hd 6 (by decide) (by kernel_rfl); have hc := (HAD.out u hE).cell; clear hd hr; go_simp; exact hK.out _ _ _ (by simp only [y85]; rfl) rfl (Chg.refl _ _)
   case sh8 =>
    clear hd hr; go_simp; exact hK.out _ _ _ rfl rfl (Chg.refl _ _)
   case sh9 =>
    have y86 : x 86 = .slice (some ⟨b, o, none⟩) (np + 1) cc := hd 7 (by decide) (by kernel_rfl); have y87 : x 87 = .int .i64 np := hd 8 (by decide) (by kernel_rfl); clear hd hr; go_simp; exact hK.out _ _ _ (by simp only [y86, y87]; rfl) rfl (Chg.refl _ _)
   case sh10 =>
    have y88 : x 88 = .slice (some ⟨b, o, none⟩) np cc := hd 9 (by decide) (by kernel_rfl); clear hd hr; go_simp; refine (HRD2.out u (HXD.out u hE)).mono ?_
    rintro e w2 ⟨rfl, hE2⟩; exact hK.out _ _ _ (by simp only [y88]; rfl) rfl hE2
   case sh11 =>
    have y84 : x 84 = .string (((pS0 ++ ⟨#[112, 114, 111, 99, 32]⟩) ++ t) ++ ⟨#[32]⟩) := hd 5 (by decide) (by kernel_rfl); have y89 : x 89 = .string (RT) := hd 10 (by decide) (by kernel_rfl); clear hd hr; go_simp
    try (rw [if_neg (by omega)])
    try go_simp
    exact hK.out _ _ _ (by simp only [y84, y89]; rfl) rfl (Chg.refl _ _)
   case sh12 =>
    have y90 : x 90 = .string ((((pS0 ++ ⟨#[112, 114, 111, 99, 32]⟩) ++ t) ++ ⟨#[32]⟩) ++ (RT)) := hd 11 (by decide) (by kernel_rfl); clear hd hr; go_simp
    try (rw [if_neg (by omega)])
    try go_simp
    exact hK.out _ _ _ (by simp only [y90]; rfl) rfl (Chg.refl _ _)
   case sh13 =>
    clear hd hr; go_simp; exact hK.out _ _ _ rfl rfl (Chg.refl _ _)
   case sh14 =>
    have y92 : x 92 = .pointer (some ⟨P, 2, none⟩) := hd 13 (by decide) (by kernel_rfl); have hc := (HAD.out u hE).cell; clear hd hr; go_simp; exact hK.out _ _ _ (by simp only [y92]; rfl) rfl (Chg.refl _ _)
   case sh15 =>
    have y93 : x 93 = .int .i64 m := hd 14 (by decide) (by kernel_rfl); clear hd hr; go_simp; refine (HLB.out u).mono ?_
    rintro e w2 ⟨rfl, hE2⟩; exact hK.out _ _ _ (by simp only [y93]; rfl) rfl hE2
   case sh16 =>
    have y91 : x 91 = .string (((((pS0 ++ ⟨#[112, 114, 111, 99, 32]⟩) ++ t) ++ ⟨#[32]⟩) ++ (RT)) ++ ⟨#[32]⟩) := hd 12 (by decide) (by kernel_rfl); have y94 : x 94 = .string (LS) := hd 15 (by decide) (by kernel_rfl); clear hd hr; go_simp
    try (rw [if_neg (by omega)])
    try go_simp
    exact hK.out _ _ _ (by simp only [y91, y94]; rfl) rfl (Chg.refl _ _)
   case sh17 =>
    have y95 : x 95 = .string ((((((pS0 ++ ⟨#[112, 114, 111, 99, 32]⟩) ++ t) ++ ⟨#[32]⟩) ++ (RT)) ++ ⟨#[32]⟩) ++ (LS)) := hd 16 (by decide) (by kernel_rfl); clear hd hr; go_simp; exact hK.out _ _ _ (by simp only [y95]; rfl) rfl (Chg.refl _ _)
  case finh =>
   intro x u hE hs; have y9 : x 9 = .string ((((((pS0 ++ ⟨#[112, 114, 111, 99, 32]⟩) ++ t) ++ ⟨#[32]⟩) ++ (RT)) ++ ⟨#[32]⟩) ++ (LS)) := hs 17 (by decide); have HE3 := Z_ (HXD.out u hE); have HA3 := Z_ (HAD.out u hE); have hq2c := HA3.out.cell; clear hE hs; by_cases hm4 : 4 ≤ m
   ·have hR := HR.out
    rw [if_pos hm4] at hR; subst hR; go_wp2_with fail
    refine (HLG.out _).mono ?_
    rintro e w2 ⟨rfl, hE2⟩; have HE4 := Z_ (HE3.out.ext hE2); have HA4 := Z_ (HA3.out.ext hE2); clear hq2c HE3 HA3 hE2; have hq2c := HA4.out.cell; obtain ⟨r0, r1, r2, r3⟩ := HQ0.out _ HE4.out; go_wp2_with fail
    refine (HC0.out _ HE4.out).mono ?_
    rintro e w3 ⟨rfl, hE3⟩; clear hq2c r0 r1 r2 r3; go_wp2_with fail
    go_ret
    exact ⟨by first | rfl | (rw [y9]; rfl), HE4.out.ext hE3⟩
   ·have hR := HR.out
    rw [if_neg hm4] at hR; subst hR; obtain ⟨r0, r1, r2, r3⟩ := HQ0.out _ HE3.out; go_wp2_with fail
    refine (HC0.out _ HE3.out).mono ?_
    rintro e w3 ⟨rfl, hE3⟩; clear hq2c r0 r1 r2 r3; go_wp2_with fail
    go_ret
    exact ⟨by first | rfl | (rw [y9]; rfl), HE3.out.ext hE3⟩
end rpr
end Go.Proofs.YtpcihajmcejliabGreatDoor
