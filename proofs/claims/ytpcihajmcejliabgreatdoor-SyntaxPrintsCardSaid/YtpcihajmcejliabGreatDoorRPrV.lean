/- The reference's Show, where the order is drawn. -/
import Derived.Test.YtpcihajmcejliabGreatDoorPrtE
import Derived.Test.YtpcihajmcejliabGreatDoorRPrU
namespace Go.Proofs.YtpcihajmcejliabGreatDoor
open Go.RowKit
namespace rpr
open synw synr prt
theorem lab_size (b : Bool) : (labW b ++ bl1).size ≤ 10 := by cases b <;> decide
set_option maxRecDepth 100000 in
set_option maxHeartbeats 4000000 in
theorem sh_par {m : Int} {t : ByteArray} (ht : t.size ≤ 100) (v : Value) (w : World) (hx : NgAt w (.mk 5 t m []) v) :
  Calls Tryz.prog 97 #[v] w fun e w' => e = .returned (.string (((labW (decide ((m : Int).tmod 2 = 1)) ++ bl1) ++ t))) ∧ Ext w w' := by
 rw [ngAt_mk] at hx; obtain ⟨a, cc, rfl, hx1, hx2, hx3, hx4⟩ := hx; simp only [List.length_nil]; have hX1 := (Chg.refl (fun _ => False) w).alloc (.cells #[.int .i64 5, .string t, .int .i64 m, .slice a 0 cc] 66); have HA := Z_ (Blk.made w #[.int .i64 5, .string t, .int .i64 m, .slice a 0 cc] 66); have HX := Z_ hX1; obtain ⟨P, hP⟩ : ∃ P, w.heap.size = P := ⟨_, rfl⟩; rw [hP] at HA; have HLB := Z_ (label_any m); have hls : (labW (decide ((m : Int).tmod 2 = 1)) ++ bl1).size ≤ 10 := lab_size _; generalize labW (decide ((m : Int).tmod 2 = 1)) ++ bl1 = LS at *; clear hx1 hx2 hx3 hx4 hX1; go_enter Tryz.func97, Tryz.ntmps97
 go_upto_region 1 with (fail)
 try rw [hP]
 generalize w.alloc (.cells #[.int .i64 5, .string t, .int .i64 m, .slice a 0 cc] 66) = w1 at *; clear hP; have q1 := HA.out.cell; obtain ⟨pS, hpS⟩ : ∃ pS, pubS m = pS := ⟨_, rfl⟩; have HPS := Z_ hpS; go_upto_if 21 with (fail)
 go_cut [4] from 21 to 21 (fun s w' => s = .string pS ∧ w' = w1)
 case first =>
  unfold pubS at hpS; by_cases hp2 : 2 ≤ (m : Int).tmod 4
  ·rw [if_pos hp2] at hpS
   subst hpS; go_wp2_with fail
   go_meet
   exact ⟨rfl, rfl⟩
  ·rw [if_neg hp2] at hpS
   subst hpS; go_wp2_with fail
   go_meet
   exact ⟨rfl, rfl⟩
 case rest =>
  obtain ⟨rfl, rfl⟩ := hcut; clear hpS; generalize wc = w1 at *; go_upto_region 27 with (fail)
  clear q1; have HAD : Hid (∀ u, Ext w1.drew u → Blk u P #[.int .i64 5, .string t, .int .i64 m, .slice a 0 cc] 66) := fun u hE => HA.out.ext (((Chg.refl _ w1).drew).then hE)
  have HXD : Hid (∀ u, Ext w1.drew u → Ext w u) := fun u hE => HX.out.then (((Chg.refl _ w1).drew).then hE)
  refine wp_region_specs (fun i => ([.val (.pointer (some ⟨P, 2, none⟩)), .val (.int .i64 m), .val (.string (LS)), .val (.pointer (some ⟨P, 1, none⟩)), .val (.string t), .val (.string ((LS) ++ t)), .val (.string ((LS) ++ t))] : List Comes).getD i (.val undef)) (frame := ?fra) (fun x => ?hfa) (by kernel_rfl) (by kernel_rfl) ?sta ?fina
  case hfa =>
   simp only [specs.frameOf, specs.fill, specs.dstAt, List.size_toArray, List.length_cons, List.length_nil, List.getElem?_toArray, List.getElem?_cons_succ, List.getElem?_cons_zero, Option.getD_some, List.setIfInBounds_toArray, List.set_cons_succ, List.set_cons_zero]; exact rfl
  case sta =>
   refine AllFrom.cons (fun x u hE hd hr K hK => ?sa0) (AllFrom.cons (fun x u hE hd hr K hK => ?sa1) (AllFrom.cons (fun x u hE hd hr K hK => ?sa2) (AllFrom.cons (fun x u hE hd hr K hK => ?sa3) (AllFrom.cons (fun x u hE hd hr K hK => ?sa4) (AllFrom.cons (fun x u hE hd hr K hK => ?sa5) (AllFrom.cons (fun x u hE hd hr K hK => ?sa6) AllFrom.nil))))))
   case sa0 =>
    clear hd hr; go_simp; exact hK.out _ _ _ rfl rfl (Chg.refl _ _)
   case sa1 =>
    have y116 : x 116 = .pointer (some ⟨P, 2, none⟩) := hd 0 (by decide) (by kernel_rfl); have hc := (HAD.out u hE).cell; clear hd hr; go_simp; exact hK.out _ _ _ (by simp only [y116]; rfl) rfl (Chg.refl _ _)
   case sa2 =>
    have y117 : x 117 = .int .i64 m := hd 1 (by decide) (by kernel_rfl); clear hd hr; go_simp; refine (HLB.out u).mono ?_
    rintro e w2 ⟨rfl, hE2⟩; exact hK.out _ _ _ (by simp only [y117]; rfl) rfl hE2
   case sa3 =>
    clear hd hr; go_simp; exact hK.out _ _ _ rfl rfl (Chg.refl _ _)
   case sa4 =>
    have y119 : x 119 = .pointer (some ⟨P, 1, none⟩) := hd 3 (by decide) (by kernel_rfl); have hc := (HAD.out u hE).cell; clear hd hr; go_simp; exact hK.out _ _ _ (by simp only [y119]; rfl) rfl (Chg.refl _ _)
   case sa5 =>
    have y118 : x 118 = .string (LS) := hd 2 (by decide) (by kernel_rfl); have y120 : x 120 = .string t := hd 4 (by decide) (by kernel_rfl); clear hd hr; go_simp
    try (rw [if_neg (by omega)])
    try go_simp
    exact hK.out _ _ _ (by simp only [y118, y120]; rfl) rfl (Chg.refl _ _)
   case sa6 =>
    have y121 : x 121 = .string ((LS) ++ t) := hd 5 (by decide) (by kernel_rfl); clear hd hr; go_simp; exact hK.out _ _ _ (by simp only [y121]; rfl) rfl (Chg.refl _ _)
  case fina =>
   intro x u hE hs; have y2 : x 2 = .string ((LS) ++ t) := hs 6 (by decide); go_wp2_with fail
   go_ret
   exact ⟨by first | rfl | (rw [y2]; rfl), HXD.out u hE⟩
set_option maxRecDepth 100000 in
set_option maxHeartbeats 4000000 in
theorem sh_loc {x : Nd} (hz0 : ShC x) (hb0 : (jB (showW x)).size ≤ 160000) {m : Int} {t : ByteArray} (ht : t.size ≤ 100) (v : Value) (w : World) (hx : NgAt w (.mk 7 t m [x]) v) :
  Calls Tryz.prog 97 #[v] w fun e w' => e = .returned (.string ((((((labW (decide ((m : Int).tmod 2 = 1)) ++ bl1) ++ t) ++ ⟨#[32, 61, 32]⟩) ++ jB (showW x)) ++ ⟨#[32, 59]⟩))) ∧ Ext w w' := by
 rw [ngAt_mk] at hx; obtain ⟨a, cc, rfl, hx1, hx2, hx3, hx4⟩ := hx; simp only [List.length_cons, List.length_nil, Nat.zero_add]; obtain ⟨b, o, k0, t0, m0, a0, n0, c0, rfl, hn0, hq0⟩ := kid_ok hx4 0 (by simp)
 have HQ0 : Hid (∀ u, Ext w u → u.cell? ⟨b, o, none⟩ = some (.int .i64 k0) ∧ u.cell? ⟨b, o + 1, none⟩ = some (.string t0) ∧ u.cell? ⟨b, o + 2, none⟩ = some (.int .i64 m0) ∧ u.cell? ⟨b, o + 3, none⟩ = some (.slice a0 n0 c0)) := by
  intro u hE; have h := hq0 u hE; simpa using h
 have HN0 := Z_ hn0; clear hn0 hq0; have hX1 := (Chg.refl (fun _ => False) w).alloc (.cells #[.int .i64 7, .string t, .int .i64 m, .slice (some ⟨b, o, none⟩) 1 cc] 66); have HA := Z_ (Blk.made w #[.int .i64 7, .string t, .int .i64 m, .slice (some ⟨b, o, none⟩) 1 cc] 66); have HX := Z_ hX1; obtain ⟨P, hP⟩ : ∃ P, w.heap.size = P := ⟨_, rfl⟩; rw [hP] at HA; have HLB := Z_ (label_any m); have hls : (labW (decide ((m : Int).tmod 2 = 1)) ++ bl1).size ≤ 10 := lab_size _; generalize labW (decide ((m : Int).tmod 2 = 1)) ++ bl1 = LS at *; have HC0 := Z_ (fun (u : World) (hE : Ext w u) => hz0 _ u (ng_ext2 HN0.out hE)); generalize jB (showW x) = T0 at *; clear hz0 HN0; clear hx1 hx2 hx3 hx4 hX1; go_enter Tryz.func97, Tryz.ntmps97
 go_upto_region 1 with (fail)
 try rw [hP]
 generalize w.alloc (.cells #[.int .i64 7, .string t, .int .i64 m, .slice (some ⟨b, o, none⟩) 1 cc] 66) = w1 at *; clear hP; have q1 := HA.out.cell; obtain ⟨pS, hpS⟩ : ∃ pS, pubS m = pS := ⟨_, rfl⟩; have HPS := Z_ hpS; go_upto_if 21 with (fail)
 go_cut [4] from 21 to 21 (fun s w' => s = .string pS ∧ w' = w1)
 case first =>
  unfold pubS at hpS; by_cases hp2 : 2 ≤ (m : Int).tmod 4
  ·rw [if_pos hp2] at hpS
   subst hpS; go_wp2_with fail
   go_meet
   exact ⟨rfl, rfl⟩
  ·rw [if_neg hp2] at hpS
   subst hpS; go_wp2_with fail
   go_meet
   exact ⟨rfl, rfl⟩
 case rest =>
  obtain ⟨rfl, rfl⟩ := hcut; clear hpS; generalize wc = w1 at *; go_upto_region 33 with (fail)
  clear q1; have HAD : Hid (∀ u, Ext w1.drew u → Blk u P #[.int .i64 7, .string t, .int .i64 m, .slice (some ⟨b, o, none⟩) 1 cc] 66) := fun u hE => HA.out.ext (((Chg.refl _ w1).drew).then hE)
  have HXD : Hid (∀ u, Ext w1.drew u → Ext w u) := fun u hE => HX.out.then (((Chg.refl _ w1).drew).then hE)
  refine wp_region_specs (fun i => ([.val (.pointer (some ⟨P, 2, none⟩)), .val (.int .i64 m), .val (.string (LS)), .val (.pointer (some ⟨P, 1, none⟩)), .val (.string t), .val (.string ((LS) ++ t)), .val (.string (((LS) ++ t) ++ ⟨#[32, 61, 32]⟩)), .val (.pointer (some ⟨P, 3, none⟩)), .val (.slice (some ⟨b, o, none⟩) 1 cc), .val (.pointer (some ⟨b, o, none⟩)), .val (.agg #[.int .i64 k0, .string t0, .int .i64 m0, .slice a0 n0 c0]), .val (.string (T0)), .val (.string ((((LS) ++ t) ++ ⟨#[32, 61, 32]⟩) ++ (T0))), .val (.string (((((LS) ++ t) ++ ⟨#[32, 61, 32]⟩) ++ (T0)) ++ ⟨#[32, 59]⟩)), .val (.string (((((LS) ++ t) ++ ⟨#[32, 61, 32]⟩) ++ (T0)) ++ ⟨#[32, 59]⟩))] : List Comes).getD i (.val undef)) (frame := ?frb) (fun x => ?hfb) (by kernel_rfl) (by kernel_rfl) ?stb ?finb
  case hfb =>
   simp only [specs.frameOf, specs.fill, specs.dstAt, List.size_toArray, List.length_cons, List.length_nil, List.getElem?_toArray, List.getElem?_cons_succ, List.getElem?_cons_zero, Option.getD_some, List.setIfInBounds_toArray, List.set_cons_succ, List.set_cons_zero]; exact rfl
  case stb =>
   refine AllFrom.cons (fun x u hE hd hr K hK => ?sb0) (AllFrom.cons (fun x u hE hd hr K hK => ?sb1) (AllFrom.cons (fun x u hE hd hr K hK => ?sb2) (AllFrom.cons (fun x u hE hd hr K hK => ?sb3) (AllFrom.cons (fun x u hE hd hr K hK => ?sb4) (AllFrom.cons (fun x u hE hd hr K hK => ?sb5) (AllFrom.cons (fun x u hE hd hr K hK => ?sb6) (AllFrom.cons (fun x u hE hd hr K hK => ?sb7) (AllFrom.cons (fun x u hE hd hr K hK => ?sb8) (AllFrom.cons (fun x u hE hd hr K hK => ?sb9) (AllFrom.cons (fun x u hE hd hr K hK => ?sb10) (AllFrom.cons (fun x u hE hd hr K hK => ?sb11) (AllFrom.cons (fun x u hE hd hr K hK => ?sb12) (AllFrom.cons (fun x u hE hd hr K hK => ?sb13) (AllFrom.cons (fun x u hE hd hr K hK => ?sb14) AllFrom.nil))))))))))))))
   case sb0 =>
    clear hd hr; go_simp; exact hK.out _ _ _ rfl rfl (Chg.refl _ _)
   case sb1 =>
    have y133 : x 133 = .pointer (some ⟨P, 2, none⟩) := hd 0 (by decide) (by kernel_rfl); have hc := (HAD.out u hE).cell; clear hd hr; go_simp; exact hK.out _ _ _ (by simp only [y133]; rfl) rfl (Chg.refl _ _)
   case sb2 =>
    have y134 : x 134 = .int .i64 m := hd 1 (by decide) (by kernel_rfl); clear hd hr; go_simp; refine (HLB.out u).mono ?_
    rintro e w2 ⟨rfl, hE2⟩; exact hK.out _ _ _ (by simp only [y134]; rfl) rfl hE2
   case sb3 =>
    clear hd hr; go_simp; exact hK.out _ _ _ rfl rfl (Chg.refl _ _)
   case sb4 =>
    have y136 : x 136 = .pointer (some ⟨P, 1, none⟩) := hd 3 (by decide) (by kernel_rfl); have hc := (HAD.out u hE).cell; clear hd hr; go_simp; exact hK.out _ _ _ (by simp only [y136]; rfl) rfl (Chg.refl _ _)
   case sb5 =>
    have y135 : x 135 = .string (LS) := hd 2 (by decide) (by kernel_rfl); have y137 : x 137 = .string t := hd 4 (by decide) (by kernel_rfl); clear hd hr; go_simp
    try (rw [if_neg (by omega)])
    try go_simp
    exact hK.out _ _ _ (by simp only [y135, y137]; rfl) rfl (Chg.refl _ _)
   case sb6 =>
    have y138 : x 138 = .string ((LS) ++ t) := hd 5 (by decide) (by kernel_rfl); clear hd hr; go_simp
    try (rw [if_neg (by omega)])
    try go_simp
    exact hK.out _ _ _ (by simp only [y138]; rfl) rfl (Chg.refl _ _)
   case sb7 =>
    clear hd hr; go_simp; exact hK.out _ _ _ rfl rfl (Chg.refl _ _)
   case sb8 =>
    have y140 : x 140 = .pointer (some ⟨P, 3, none⟩) := hd 7 (by decide) (by kernel_rfl); have hc := (HAD.out u hE).cell; clear hd hr; go_simp; exact hK.out _ _ _ (by simp only [y140]; rfl) rfl (Chg.refl _ _)
   case sb9 =>
    have y141 : x 141 = .slice (some ⟨b, o, none⟩) 1 cc := hd 8 (by decide) (by kernel_rfl); clear hd hr; go_simp; exact hK.out _ _ _ (by simp only [y141]; rfl) rfl (Chg.refl _ _)
   case sb10 =>
    have y142 : x 142 = .pointer (some ⟨b, o, none⟩) := hd 9 (by decide) (by kernel_rfl); obtain ⟨r0, r1, r2, r3⟩ := HQ0.out u (HXD.out u hE); clear hd hr; go_simp; exact hK.out _ _ _ (by simp only [y142]; rfl) rfl (Chg.refl _ _)
   case sb11 =>
    have y143 : x 143 = .agg #[.int .i64 k0, .string t0, .int .i64 m0, .slice a0 n0 c0] := hd 10 (by decide) (by kernel_rfl); clear hd hr; go_simp; refine (HC0.out u (HXD.out u hE)).mono ?_
    rintro e w2 ⟨rfl, hE2⟩; exact hK.out _ _ _ (by simp only [y143]; rfl) rfl hE2
   case sb12 =>
    have y139 : x 139 = .string (((LS) ++ t) ++ ⟨#[32, 61, 32]⟩) := hd 6 (by decide) (by kernel_rfl); have y144 : x 144 = .string (T0) := hd 11 (by decide) (by kernel_rfl); clear hd hr; go_simp
    try (rw [if_neg (by omega)])
    try go_simp
    exact hK.out _ _ _ (by simp only [y139, y144]; rfl) rfl (Chg.refl _ _)
   case sb13 =>
    have y145 : x 145 = .string ((((LS) ++ t) ++ ⟨#[32, 61, 32]⟩) ++ (T0)) := hd 12 (by decide) (by kernel_rfl); clear hd hr; go_simp
    try (rw [if_neg (by omega)])
    try go_simp
    exact hK.out _ _ _ (by simp only [y145]; rfl) rfl (Chg.refl _ _)
   case sb14 =>
    have y146 : x 146 = .string (((((LS) ++ t) ++ ⟨#[32, 61, 32]⟩) ++ (T0)) ++ ⟨#[32, 59]⟩) := hd 13 (by decide) (by kernel_rfl); clear hd hr; go_simp; exact hK.out _ _ _ (by simp only [y146]; rfl) rfl (Chg.refl _ _)
  case finb =>
   intro x u hE hs; have y2 : x 2 = .string (((((LS) ++ t) ++ ⟨#[32, 61, 32]⟩) ++ (T0)) ++ ⟨#[32, 59]⟩) := hs 14 (by decide); go_wp2_with fail
   go_ret
   exact ⟨by first | rfl | (rw [y2]; rfl), HXD.out u hE⟩
set_option maxRecDepth 100000 in
set_option maxHeartbeats 4000000 in
theorem sh_set {x y : Nd} (hz0 : ShC x) (hb0 : (jB (showW x)).size ≤ 160000) (hz1 : ShC y) (hb1 : (jB (showW y)).size ≤ 160000) (v : Value) (w : World) (hx : NgAt w (.mk 8 noText 0 [x, y]) v) :
  Calls Tryz.prog 97 #[v] w fun e w' => e = .returned (.string ((((jB (showW x) ++ ⟨#[32, 61, 32]⟩) ++ jB (showW y)) ++ ⟨#[32, 59]⟩))) ∧ Ext w w' := by
 rw [ngAt_mk] at hx; obtain ⟨a, cc, rfl, hx1, hx2, hx3, hx4⟩ := hx; simp only [List.length_cons, List.length_nil, Nat.zero_add]; obtain ⟨b, o, k0, t0, m0, a0, n0, c0, rfl, hn0, hq0⟩ := kid_ok hx4 0 (by simp)
 have HQ0 : Hid (∀ u, Ext w u → u.cell? ⟨b, o, none⟩ = some (.int .i64 k0) ∧ u.cell? ⟨b, o + 1, none⟩ = some (.string t0) ∧ u.cell? ⟨b, o + 2, none⟩ = some (.int .i64 m0) ∧ u.cell? ⟨b, o + 3, none⟩ = some (.slice a0 n0 c0)) := by
  intro u hE; have h := hq0 u hE; simpa using h
 have HN0 := Z_ hn0; clear hn0 hq0; obtain ⟨b', o', k1, t1, m1, a1, n1, c1, e1, hn1, hq1⟩ := kid_ok hx4 1 (by simp); injection e1 with e1
 injection e1 with e1 f1 _
 subst e1 f1
 have HQ1 : Hid (∀ u, Ext w u → u.cell? ⟨b, o + 4, none⟩ = some (.int .i64 k1) ∧ u.cell? ⟨b, o + 4 + 1, none⟩ = some (.string t1) ∧ u.cell? ⟨b, o + 4 + 2, none⟩ = some (.int .i64 m1) ∧ u.cell? ⟨b, o + 4 + 3, none⟩ = some (.slice a1 n1 c1)) := by
  intro u hE; have h := hq1 u hE; simpa using h
 have HN1 := Z_ hn1; clear hn1 hq1; have hX1 := (Chg.refl (fun _ => False) w).alloc (.cells #[.int .i64 8, .string noText, .int .i64 0, .slice (some ⟨b, o, none⟩) 2 cc] 66); have HA := Z_ (Blk.made w #[.int .i64 8, .string noText, .int .i64 0, .slice (some ⟨b, o, none⟩) 2 cc] 66); have HX := Z_ hX1; obtain ⟨P, hP⟩ : ∃ P, w.heap.size = P := ⟨_, rfl⟩; rw [hP] at HA; have HC0 := Z_ (fun (u : World) (hE : Ext w u) => hz0 _ u (ng_ext2 HN0.out hE)); have HC1 := Z_ (fun (u : World) (hE : Ext w u) => hz1 _ u (ng_ext2 HN1.out hE)); generalize jB (showW x) = T0 at *; generalize jB (showW y) = T1 at *; clear hz0 HN0 hz1 HN1; clear hx1 hx2 hx3 hx4 hX1; go_enter Tryz.func97, Tryz.ntmps97
 go_upto_region 1 with (fail)
 try rw [hP]
 generalize w.alloc (.cells #[.int .i64 8, .string noText, .int .i64 0, .slice (some ⟨b, o, none⟩) 2 cc] 66) = w1 at *; clear hP; have q1 := HA.out.cell; go_upto_region 35 with (fail)
 clear q1; have HAD : Hid (∀ u, Ext w1.drew u → Blk u P #[.int .i64 8, .string noText, .int .i64 0, .slice (some ⟨b, o, none⟩) 2 cc] 66) := fun u hE => HA.out.ext (((Chg.refl _ w1).drew).then hE)
 have HXD : Hid (∀ u, Ext w1.drew u → Ext w u) := fun u hE => HX.out.then (((Chg.refl _ w1).drew).then hE)
 refine wp_region_specs (fun i => ([.val (.pointer (some ⟨P, 3, none⟩)), .val (.slice (some ⟨b, o, none⟩) 2 cc), .val (.pointer (some ⟨b, o, none⟩)), .val (.agg #[.int .i64 k0, .string t0, .int .i64 m0, .slice a0 n0 c0]), .val (.string (T0)), .val (.string ((T0) ++ ⟨#[32, 61, 32]⟩)), .val (.pointer (some ⟨P, 3, none⟩)), .val (.slice (some ⟨b, o, none⟩) 2 cc), .val (.pointer (some ⟨b, o + 4, none⟩)), .val (.agg #[.int .i64 k1, .string t1, .int .i64 m1, .slice a1 n1 c1]), .val (.string (T1)), .val (.string (((T0) ++ ⟨#[32, 61, 32]⟩) ++ (T1))), .val (.string ((((T0) ++ ⟨#[32, 61, 32]⟩) ++ (T1)) ++ ⟨#[32, 59]⟩)), .val (.string ((((T0) ++ ⟨#[32, 61, 32]⟩) ++ (T1)) ++ ⟨#[32, 59]⟩))] : List Comes).getD i (.val undef)) (frame := ?frc) (fun x => ?hfc) (by kernel_rfl) (by kernel_rfl) ?stc ?finc
 case hfc =>
  simp only [specs.frameOf, specs.fill, specs.dstAt, List.size_toArray, List.length_cons, List.length_nil, List.getElem?_toArray, List.getElem?_cons_succ, List.getElem?_cons_zero, Option.getD_some, List.setIfInBounds_toArray, List.set_cons_succ, List.set_cons_zero]; exact rfl
 case stc =>
  refine AllFrom.cons (fun x u hE hd hr K hK => ?sc0) (AllFrom.cons (fun x u hE hd hr K hK => ?sc1) (AllFrom.cons (fun x u hE hd hr K hK => ?sc2) (AllFrom.cons (fun x u hE hd hr K hK => ?sc3) (AllFrom.cons (fun x u hE hd hr K hK => ?sc4) (AllFrom.cons (fun x u hE hd hr K hK => ?sc5) (AllFrom.cons (fun x u hE hd hr K hK => ?sc6) (AllFrom.cons (fun x u hE hd hr K hK => ?sc7) (AllFrom.cons (fun x u hE hd hr K hK => ?sc8) (AllFrom.cons (fun x u hE hd hr K hK => ?sc9) (AllFrom.cons (fun x u hE hd hr K hK => ?sc10) (AllFrom.cons (fun x u hE hd hr K hK => ?sc11) (AllFrom.cons (fun x u hE hd hr K hK => ?sc12) (AllFrom.cons (fun x u hE hd hr K hK => ?sc13) AllFrom.nil)))))))))))))
  case sc0 =>
   clear hd hr; go_simp; exact hK.out _ _ _ rfl rfl (Chg.refl _ _)
  case sc1 =>
   have y149 : x 149 = .pointer (some ⟨P, 3, none⟩) := hd 0 (by decide) (by kernel_rfl); have hc := (HAD.out u hE).cell; clear hd hr; go_simp; exact hK.out _ _ _ (by simp only [y149]; rfl) rfl (Chg.refl _ _)
  case sc2 =>
   have y150 : x 150 = .slice (some ⟨b, o, none⟩) 2 cc := hd 1 (by decide) (by kernel_rfl); clear hd hr; go_simp; exact hK.out _ _ _ (by simp only [y150]; rfl) rfl (Chg.refl _ _)
  case sc3 =>
   have y151 : x 151 = .pointer (some ⟨b, o, none⟩) := hd 2 (by decide) (by kernel_rfl); obtain ⟨r0, r1, r2, r3⟩ := HQ0.out u (HXD.out u hE); clear hd hr; go_simp; exact hK.out _ _ _ (by simp only [y151]; rfl) rfl (Chg.refl _ _)
  case sc4 =>
   have y152 : x 152 = .agg #[.int .i64 k0, .string t0, .int .i64 m0, .slice a0 n0 c0] := hd 3 (by decide) (by kernel_rfl); clear hd hr; go_simp; refine (HC0.out u (HXD.out u hE)).mono ?_
   rintro e w2 ⟨rfl, hE2⟩; exact hK.out _ _ _ (by simp only [y152]; rfl) rfl hE2
  case sc5 =>
   have y153 : x 153 = .string (T0) := hd 4 (by decide) (by kernel_rfl); clear hd hr; go_simp
   try (rw [if_neg (by omega)])
   try go_simp
   exact hK.out _ _ _ (by simp only [y153]; rfl) rfl (Chg.refl _ _)
  case sc6 =>
   clear hd hr; go_simp; exact hK.out _ _ _ rfl rfl (Chg.refl _ _)
  case sc7 =>
   have y155 : x 155 = .pointer (some ⟨P, 3, none⟩) := hd 6 (by decide) (by kernel_rfl); have hc := (HAD.out u hE).cell; clear hd hr; go_simp; exact hK.out _ _ _ (by simp only [y155]; rfl) rfl (Chg.refl _ _)
  case sc8 =>
   have y156 : x 156 = .slice (some ⟨b, o, none⟩) 2 cc := hd 7 (by decide) (by kernel_rfl); clear hd hr; go_simp; exact hK.out _ _ _ (by simp only [y156]; rfl) rfl (Chg.refl _ _)
  case sc9 =>
   have y157 : x 157 = .pointer (some ⟨b, o + 4, none⟩) := hd 8 (by decide) (by kernel_rfl); obtain ⟨r0, r1, r2, r3⟩ := HQ1.out u (HXD.out u hE); clear hd hr; go_simp; exact hK.out _ _ _ (by simp only [y157]; rfl) rfl (Chg.refl _ _)
  case sc10 =>
   have y158 : x 158 = .agg #[.int .i64 k1, .string t1, .int .i64 m1, .slice a1 n1 c1] := hd 9 (by decide) (by kernel_rfl); clear hd hr; go_simp; refine (HC1.out u (HXD.out u hE)).mono ?_
   rintro e w2 ⟨rfl, hE2⟩; exact hK.out _ _ _ (by simp only [y158]; rfl) rfl hE2
  case sc11 =>
   have y154 : x 154 = .string ((T0) ++ ⟨#[32, 61, 32]⟩) := hd 5 (by decide) (by kernel_rfl); have y159 : x 159 = .string (T1) := hd 10 (by decide) (by kernel_rfl); clear hd hr; go_simp
   try (rw [if_neg (by omega)])
   try go_simp
   exact hK.out _ _ _ (by simp only [y154, y159]; rfl) rfl (Chg.refl _ _)
  case sc12 =>
   have y160 : x 160 = .string (((T0) ++ ⟨#[32, 61, 32]⟩) ++ (T1)) := hd 11 (by decide) (by kernel_rfl); clear hd hr; go_simp
   try (rw [if_neg (by omega)])
   try go_simp
   exact hK.out _ _ _ (by simp only [y160]; rfl) rfl (Chg.refl _ _)
  case sc13 =>
   have y161 : x 161 = .string ((((T0) ++ ⟨#[32, 61, 32]⟩) ++ (T1)) ++ ⟨#[32, 59]⟩) := hd 12 (by decide) (by kernel_rfl); clear hd hr; go_simp; exact hK.out _ _ _ (by simp only [y161]; rfl) rfl (Chg.refl _ _)
 case finc =>
  intro x u hE hs; have y2 : x 2 = .string ((((T0) ++ ⟨#[32, 61, 32]⟩) ++ (T1)) ++ ⟨#[32, 59]⟩) := hs 13 (by decide); go_wp2_with fail
  go_ret
  exact ⟨by first | rfl | (rw [y2]; rfl), HXD.out u hE⟩
set_option maxRecDepth 100000 in
set_option maxHeartbeats 4000000 in
theorem sh_while {x y : Nd} (hz0 : ShC x) (hb0 : (jB (showW x)).size ≤ 160000) (hz1 : ShC y) (hb1 : (jB (showW y)).size ≤ 160000) (v : Value) (w : World) (hx : NgAt w (.mk 11 noText 0 [x, y]) v) :
  Calls Tryz.prog 97 #[v] w fun e w' => e = .returned (.string ((((⟨#[119, 104, 105, 108, 101, 32, 40, 32]⟩ ++ jB (showW x)) ++ ⟨#[32, 41, 32]⟩) ++ jB (showW y)))) ∧ Ext w w' := by
 rw [ngAt_mk] at hx; obtain ⟨a, cc, rfl, hx1, hx2, hx3, hx4⟩ := hx; simp only [List.length_cons, List.length_nil, Nat.zero_add]; obtain ⟨b, o, k0, t0, m0, a0, n0, c0, rfl, hn0, hq0⟩ := kid_ok hx4 0 (by simp)
 have HQ0 : Hid (∀ u, Ext w u → u.cell? ⟨b, o, none⟩ = some (.int .i64 k0) ∧ u.cell? ⟨b, o + 1, none⟩ = some (.string t0) ∧ u.cell? ⟨b, o + 2, none⟩ = some (.int .i64 m0) ∧ u.cell? ⟨b, o + 3, none⟩ = some (.slice a0 n0 c0)) := by
  intro u hE; have h := hq0 u hE; simpa using h
 have HN0 := Z_ hn0; clear hn0 hq0; obtain ⟨b', o', k1, t1, m1, a1, n1, c1, e1, hn1, hq1⟩ := kid_ok hx4 1 (by simp); injection e1 with e1
 injection e1 with e1 f1 _
 subst e1 f1
 have HQ1 : Hid (∀ u, Ext w u → u.cell? ⟨b, o + 4, none⟩ = some (.int .i64 k1) ∧ u.cell? ⟨b, o + 4 + 1, none⟩ = some (.string t1) ∧ u.cell? ⟨b, o + 4 + 2, none⟩ = some (.int .i64 m1) ∧ u.cell? ⟨b, o + 4 + 3, none⟩ = some (.slice a1 n1 c1)) := by
  intro u hE; have h := hq1 u hE; simpa using h
 have HN1 := Z_ hn1; clear hn1 hq1; have hX1 := (Chg.refl (fun _ => False) w).alloc (.cells #[.int .i64 11, .string noText, .int .i64 0, .slice (some ⟨b, o, none⟩) 2 cc] 66); have HA := Z_ (Blk.made w #[.int .i64 11, .string noText, .int .i64 0, .slice (some ⟨b, o, none⟩) 2 cc] 66); have HX := Z_ hX1; obtain ⟨P, hP⟩ : ∃ P, w.heap.size = P := ⟨_, rfl⟩; rw [hP] at HA; have HC0 := Z_ (fun (u : World) (hE : Ext w u) => hz0 _ u (ng_ext2 HN0.out hE)); have HC1 := Z_ (fun (u : World) (hE : Ext w u) => hz1 _ u (ng_ext2 HN1.out hE)); generalize jB (showW x) = T0 at *; generalize jB (showW y) = T1 at *; clear hz0 HN0 hz1 HN1; clear hx1 hx2 hx3 hx4 hX1; go_enter Tryz.func97, Tryz.ntmps97
 go_upto_region 1 with (fail)
 try rw [hP]
 generalize w.alloc (.cells #[.int .i64 11, .string noText, .int .i64 0, .slice (some ⟨b, o, none⟩) 2 cc] 66) = w1 at *; clear hP; have q1 := HA.out.cell; go_upto_region 44 with (fail)
 clear q1; have HAD : Hid (∀ u, Ext w1.drew u → Blk u P #[.int .i64 11, .string noText, .int .i64 0, .slice (some ⟨b, o, none⟩) 2 cc] 66) := fun u hE => HA.out.ext (((Chg.refl _ w1).drew).then hE)
 have HXD : Hid (∀ u, Ext w1.drew u → Ext w u) := fun u hE => HX.out.then (((Chg.refl _ w1).drew).then hE)
 refine wp_region_specs (fun i => ([.val (.pointer (some ⟨P, 3, none⟩)), .val (.slice (some ⟨b, o, none⟩) 2 cc), .val (.pointer (some ⟨b, o, none⟩)), .val (.agg #[.int .i64 k0, .string t0, .int .i64 m0, .slice a0 n0 c0]), .val (.string (T0)), .val (.string (⟨#[119, 104, 105, 108, 101, 32, 40, 32]⟩ ++ (T0))), .val (.string ((⟨#[119, 104, 105, 108, 101, 32, 40, 32]⟩ ++ (T0)) ++ ⟨#[32, 41, 32]⟩)), .val (.pointer (some ⟨P, 3, none⟩)), .val (.slice (some ⟨b, o, none⟩) 2 cc), .val (.pointer (some ⟨b, o + 4, none⟩)), .val (.agg #[.int .i64 k1, .string t1, .int .i64 m1, .slice a1 n1 c1]), .val (.string (T1)), .val (.string (((⟨#[119, 104, 105, 108, 101, 32, 40, 32]⟩ ++ (T0)) ++ ⟨#[32, 41, 32]⟩) ++ (T1))), .val (.string (((⟨#[119, 104, 105, 108, 101, 32, 40, 32]⟩ ++ (T0)) ++ ⟨#[32, 41, 32]⟩) ++ (T1)))] : List Comes).getD i (.val undef)) (frame := ?frd) (fun x => ?hfd) (by kernel_rfl) (by kernel_rfl) ?std ?find
 case hfd =>
  simp only [specs.frameOf, specs.fill, specs.dstAt, List.size_toArray, List.length_cons, List.length_nil, List.getElem?_toArray, List.getElem?_cons_succ, List.getElem?_cons_zero, Option.getD_some, List.setIfInBounds_toArray, List.set_cons_succ, List.set_cons_zero]; exact rfl
 case std =>
  refine AllFrom.cons (fun x u hE hd hr K hK => ?sd0) (AllFrom.cons (fun x u hE hd hr K hK => ?sd1) (AllFrom.cons (fun x u hE hd hr K hK => ?sd2) (AllFrom.cons (fun x u hE hd hr K hK => ?sd3) (AllFrom.cons (fun x u hE hd hr K hK => ?sd4) (AllFrom.cons (fun x u hE hd hr K hK => ?sd5) (AllFrom.cons (fun x u hE hd hr K hK => ?sd6) (AllFrom.cons (fun x u hE hd hr K hK => ?sd7) (AllFrom.cons (fun x u hE hd hr K hK => ?sd8) (AllFrom.cons (fun x u hE hd hr K hK => ?sd9) (AllFrom.cons (fun x u hE hd hr K hK => ?sd10) (AllFrom.cons (fun x u hE hd hr K hK => ?sd11) (AllFrom.cons (fun x u hE hd hr K hK => ?sd12) (AllFrom.cons (fun x u hE hd hr K hK => ?sd13) AllFrom.nil)))))))))))))
  case sd0 =>
   clear hd hr; go_simp; exact hK.out _ _ _ rfl rfl (Chg.refl _ _)
  case sd1 =>
   have y199 : x 199 = .pointer (some ⟨P, 3, none⟩) := hd 0 (by decide) (by kernel_rfl); have hc := (HAD.out u hE).cell; clear hd hr; go_simp; exact hK.out _ _ _ (by simp only [y199]; rfl) rfl (Chg.refl _ _)
  case sd2 =>
   have y200 : x 200 = .slice (some ⟨b, o, none⟩) 2 cc := hd 1 (by decide) (by kernel_rfl); clear hd hr; go_simp; exact hK.out _ _ _ (by simp only [y200]; rfl) rfl (Chg.refl _ _)
  case sd3 =>
   have y201 : x 201 = .pointer (some ⟨b, o, none⟩) := hd 2 (by decide) (by kernel_rfl); obtain ⟨r0, r1, r2, r3⟩ := HQ0.out u (HXD.out u hE); clear hd hr; go_simp; exact hK.out _ _ _ (by simp only [y201]; rfl) rfl (Chg.refl _ _)
  case sd4 =>
   have y202 : x 202 = .agg #[.int .i64 k0, .string t0, .int .i64 m0, .slice a0 n0 c0] := hd 3 (by decide) (by kernel_rfl); clear hd hr; go_simp; refine (HC0.out u (HXD.out u hE)).mono ?_
   rintro e w2 ⟨rfl, hE2⟩; exact hK.out _ _ _ (by simp only [y202]; rfl) rfl hE2
  case sd5 =>
   have y203 : x 203 = .string (T0) := hd 4 (by decide) (by kernel_rfl); clear hd hr; go_simp
   try (rw [if_neg (by omega)])
   try go_simp
   exact hK.out _ _ _ (by simp only [y203]; rfl) rfl (Chg.refl _ _)
  case sd6 =>
   have y204 : x 204 = .string (⟨#[119, 104, 105, 108, 101, 32, 40, 32]⟩ ++ (T0)) := hd 5 (by decide) (by kernel_rfl); clear hd hr; go_simp
   try (rw [if_neg (by omega)])
   try go_simp
   exact hK.out _ _ _ (by simp only [y204]; rfl) rfl (Chg.refl _ _)
  case sd7 =>
   clear hd hr; go_simp; exact hK.out _ _ _ rfl rfl (Chg.refl _ _)
  case sd8 =>
   have y206 : x 206 = .pointer (some ⟨P, 3, none⟩) := hd 7 (by decide) (by kernel_rfl); have hc := (HAD.out u hE).cell; clear hd hr; go_simp; exact hK.out _ _ _ (by simp only [y206]; rfl) rfl (Chg.refl _ _)
  case sd9 =>
   have y207 : x 207 = .slice (some ⟨b, o, none⟩) 2 cc := hd 8 (by decide) (by kernel_rfl); clear hd hr; go_simp; exact hK.out _ _ _ (by simp only [y207]; rfl) rfl (Chg.refl _ _)
  case sd10 =>
   have y208 : x 208 = .pointer (some ⟨b, o + 4, none⟩) := hd 9 (by decide) (by kernel_rfl); obtain ⟨r0, r1, r2, r3⟩ := HQ1.out u (HXD.out u hE); clear hd hr; go_simp; exact hK.out _ _ _ (by simp only [y208]; rfl) rfl (Chg.refl _ _)
  case sd11 =>
   have y209 : x 209 = .agg #[.int .i64 k1, .string t1, .int .i64 m1, .slice a1 n1 c1] := hd 10 (by decide) (by kernel_rfl); clear hd hr; go_simp; refine (HC1.out u (HXD.out u hE)).mono ?_
   rintro e w2 ⟨rfl, hE2⟩; exact hK.out _ _ _ (by simp only [y209]; rfl) rfl hE2
  case sd12 =>
   have y205 : x 205 = .string ((⟨#[119, 104, 105, 108, 101, 32, 40, 32]⟩ ++ (T0)) ++ ⟨#[32, 41, 32]⟩) := hd 6 (by decide) (by kernel_rfl); have y210 : x 210 = .string (T1) := hd 11 (by decide) (by kernel_rfl); clear hd hr; go_simp
   try (rw [if_neg (by omega)])
   try go_simp
   exact hK.out _ _ _ (by simp only [y205, y210]; rfl) rfl (Chg.refl _ _)
  case sd13 =>
   have y211 : x 211 = .string (((⟨#[119, 104, 105, 108, 101, 32, 40, 32]⟩ ++ (T0)) ++ ⟨#[32, 41, 32]⟩) ++ (T1)) := hd 12 (by decide) (by kernel_rfl); clear hd hr; go_simp; exact hK.out _ _ _ (by simp only [y211]; rfl) rfl (Chg.refl _ _)
 case find =>
  intro x u hE hs; have y2 : x 2 = .string (((⟨#[119, 104, 105, 108, 101, 32, 40, 32]⟩ ++ (T0)) ++ ⟨#[32, 41, 32]⟩) ++ (T1)) := hs 13 (by decide); go_wp2_with fail
  go_ret
  exact ⟨by first | rfl | (rw [y2]; rfl), HXD.out u hE⟩
set_option maxRecDepth 100000 in
set_option maxHeartbeats 4000000 in
theorem sh_out {x : Nd} (hz0 : ShC x) (hb0 : (jB (showW x)).size ≤ 160000) {m : Int} (v : Value) (w : World) (hx : NgAt w (.mk 12 noText m [x]) v) :
  Calls Tryz.prog 97 #[v] w fun e w' => e = .returned (.string ((((⟨#[111, 117, 116, 32]⟩ ++ (labW (decide ((m : Int).tmod 2 = 1)) ++ bl1)) ++ jB (showW x)) ++ ⟨#[32, 59]⟩))) ∧ Ext w w' := by
 rw [ngAt_mk] at hx; obtain ⟨a, cc, rfl, hx1, hx2, hx3, hx4⟩ := hx; simp only [List.length_cons, List.length_nil, Nat.zero_add]; obtain ⟨b, o, k0, t0, m0, a0, n0, c0, rfl, hn0, hq0⟩ := kid_ok hx4 0 (by simp)
 have HQ0 : Hid (∀ u, Ext w u → u.cell? ⟨b, o, none⟩ = some (.int .i64 k0) ∧ u.cell? ⟨b, o + 1, none⟩ = some (.string t0) ∧ u.cell? ⟨b, o + 2, none⟩ = some (.int .i64 m0) ∧ u.cell? ⟨b, o + 3, none⟩ = some (.slice a0 n0 c0)) := by
  intro u hE; have h := hq0 u hE; simpa using h
 have HN0 := Z_ hn0; clear hn0 hq0; have hX1 := (Chg.refl (fun _ => False) w).alloc (.cells #[.int .i64 12, .string noText, .int .i64 m, .slice (some ⟨b, o, none⟩) 1 cc] 66); have HA := Z_ (Blk.made w #[.int .i64 12, .string noText, .int .i64 m, .slice (some ⟨b, o, none⟩) 1 cc] 66); have HX := Z_ hX1; obtain ⟨P, hP⟩ : ∃ P, w.heap.size = P := ⟨_, rfl⟩; rw [hP] at HA; have HLB := Z_ (label_any m); have hls : (labW (decide ((m : Int).tmod 2 = 1)) ++ bl1).size ≤ 10 := lab_size _; generalize labW (decide ((m : Int).tmod 2 = 1)) ++ bl1 = LS at *; have HC0 := Z_ (fun (u : World) (hE : Ext w u) => hz0 _ u (ng_ext2 HN0.out hE)); generalize jB (showW x) = T0 at *; clear hz0 HN0; clear hx1 hx2 hx3 hx4 hX1; go_enter Tryz.func97, Tryz.ntmps97
 go_upto_region 1 with (fail)
 try rw [hP]
 generalize w.alloc (.cells #[.int .i64 12, .string noText, .int .i64 m, .slice (some ⟨b, o, none⟩) 1 cc] 66) = w1 at *; clear hP; have q1 := HA.out.cell; obtain ⟨pS, hpS⟩ : ∃ pS, pubS m = pS := ⟨_, rfl⟩; have HPS := Z_ hpS; go_upto_if 21 with (fail)
 go_cut [4] from 21 to 21 (fun s w' => s = .string pS ∧ w' = w1)
 case first =>
  unfold pubS at hpS; by_cases hp2 : 2 ≤ (m : Int).tmod 4
  ·rw [if_pos hp2] at hpS
   subst hpS; go_wp2_with fail
   go_meet
   exact ⟨rfl, rfl⟩
  ·rw [if_neg hp2] at hpS
   subst hpS; go_wp2_with fail
   go_meet
   exact ⟨rfl, rfl⟩
 case rest =>
  obtain ⟨rfl, rfl⟩ := hcut; clear hpS; generalize wc = w1 at *; go_upto_region 46 with (fail)
  clear q1; have HAD : Hid (∀ u, Ext w1.drew u → Blk u P #[.int .i64 12, .string noText, .int .i64 m, .slice (some ⟨b, o, none⟩) 1 cc] 66) := fun u hE => HA.out.ext (((Chg.refl _ w1).drew).then hE)
  have HXD : Hid (∀ u, Ext w1.drew u → Ext w u) := fun u hE => HX.out.then (((Chg.refl _ w1).drew).then hE)
  refine wp_region_specs (fun i => ([.val (.pointer (some ⟨P, 2, none⟩)), .val (.int .i64 m), .val (.string (LS)), .val (.string (⟨#[111, 117, 116, 32]⟩ ++ (LS))), .val (.pointer (some ⟨P, 3, none⟩)), .val (.slice (some ⟨b, o, none⟩) 1 cc), .val (.pointer (some ⟨b, o, none⟩)), .val (.agg #[.int .i64 k0, .string t0, .int .i64 m0, .slice a0 n0 c0]), .val (.string (T0)), .val (.string ((⟨#[111, 117, 116, 32]⟩ ++ (LS)) ++ (T0))), .val (.string (((⟨#[111, 117, 116, 32]⟩ ++ (LS)) ++ (T0)) ++ ⟨#[32, 59]⟩)), .val (.string (((⟨#[111, 117, 116, 32]⟩ ++ (LS)) ++ (T0)) ++ ⟨#[32, 59]⟩))] : List Comes).getD i (.val undef)) (frame := ?fre) (fun x => ?hfe) (by kernel_rfl) (by kernel_rfl) ?ste ?fine
  case hfe =>
   simp only [specs.frameOf, specs.fill, specs.dstAt, List.size_toArray, List.length_cons, List.length_nil, List.getElem?_toArray, List.getElem?_cons_succ, List.getElem?_cons_zero, Option.getD_some, List.setIfInBounds_toArray, List.set_cons_succ, List.set_cons_zero]; exact rfl
  case ste =>
   refine AllFrom.cons (fun x u hE hd hr K hK => ?se0) (AllFrom.cons (fun x u hE hd hr K hK => ?se1) (AllFrom.cons (fun x u hE hd hr K hK => ?se2) (AllFrom.cons (fun x u hE hd hr K hK => ?se3) (AllFrom.cons (fun x u hE hd hr K hK => ?se4) (AllFrom.cons (fun x u hE hd hr K hK => ?se5) (AllFrom.cons (fun x u hE hd hr K hK => ?se6) (AllFrom.cons (fun x u hE hd hr K hK => ?se7) (AllFrom.cons (fun x u hE hd hr K hK => ?se8) (AllFrom.cons (fun x u hE hd hr K hK => ?se9) (AllFrom.cons (fun x u hE hd hr K hK => ?se10) (AllFrom.cons (fun x u hE hd hr K hK => ?se11) AllFrom.nil)))))))))))
   case se0 =>
    clear hd hr; go_simp; exact hK.out _ _ _ rfl rfl (Chg.refl _ _)
   case se1 =>
    have y214 : x 214 = .pointer (some ⟨P, 2, none⟩) := hd 0 (by decide) (by kernel_rfl); have hc := (HAD.out u hE).cell; clear hd hr; go_simp; exact hK.out _ _ _ (by simp only [y214]; rfl) rfl (Chg.refl _ _)
   case se2 =>
    have y215 : x 215 = .int .i64 m := hd 1 (by decide) (by kernel_rfl); clear hd hr; go_simp; refine (HLB.out u).mono ?_
    rintro e w2 ⟨rfl, hE2⟩; exact hK.out _ _ _ (by simp only [y215]; rfl) rfl hE2
   case se3 =>
    have y216 : x 216 = .string (LS) := hd 2 (by decide) (by kernel_rfl); clear hd hr; go_simp
    try (rw [if_neg (by omega)])
    try go_simp
    exact hK.out _ _ _ (by simp only [y216]; rfl) rfl (Chg.refl _ _)
   case se4 =>
    clear hd hr; go_simp; exact hK.out _ _ _ rfl rfl (Chg.refl _ _)
   case se5 =>
    have y218 : x 218 = .pointer (some ⟨P, 3, none⟩) := hd 4 (by decide) (by kernel_rfl); have hc := (HAD.out u hE).cell; clear hd hr; go_simp; exact hK.out _ _ _ (by simp only [y218]; rfl) rfl (Chg.refl _ _)
   case se6 =>
    have y219 : x 219 = .slice (some ⟨b, o, none⟩) 1 cc := hd 5 (by decide) (by kernel_rfl); clear hd hr; go_simp; exact hK.out _ _ _ (by simp only [y219]; rfl) rfl (Chg.refl _ _)
   case se7 =>
    have y220 : x 220 = .pointer (some ⟨b, o, none⟩) := hd 6 (by decide) (by kernel_rfl); obtain ⟨r0, r1, r2, r3⟩ := HQ0.out u (HXD.out u hE); clear hd hr; go_simp; exact hK.out _ _ _ (by simp only [y220]; rfl) rfl (Chg.refl _ _)
   case se8 =>
    have y221 : x 221 = .agg #[.int .i64 k0, .string t0, .int .i64 m0, .slice a0 n0 c0] := hd 7 (by decide) (by kernel_rfl); clear hd hr; go_simp; refine (HC0.out u (HXD.out u hE)).mono ?_
    rintro e w2 ⟨rfl, hE2⟩; exact hK.out _ _ _ (by simp only [y221]; rfl) rfl hE2
   case se9 =>
    have y217 : x 217 = .string (⟨#[111, 117, 116, 32]⟩ ++ (LS)) := hd 3 (by decide) (by kernel_rfl); have y222 : x 222 = .string (T0) := hd 8 (by decide) (by kernel_rfl); clear hd hr; go_simp
    try (rw [if_neg (by omega)])
    try go_simp
    exact hK.out _ _ _ (by simp only [y217, y222]; rfl) rfl (Chg.refl _ _)
   case se10 =>
    have y223 : x 223 = .string ((⟨#[111, 117, 116, 32]⟩ ++ (LS)) ++ (T0)) := hd 9 (by decide) (by kernel_rfl); clear hd hr; go_simp
    try (rw [if_neg (by omega)])
    try go_simp
    exact hK.out _ _ _ (by simp only [y223]; rfl) rfl (Chg.refl _ _)
   case se11 =>
    have y224 : x 224 = .string (((⟨#[111, 117, 116, 32]⟩ ++ (LS)) ++ (T0)) ++ ⟨#[32, 59]⟩) := hd 10 (by decide) (by kernel_rfl); clear hd hr; go_simp; exact hK.out _ _ _ (by simp only [y224]; rfl) rfl (Chg.refl _ _)
  case fine =>
   intro x u hE hs; have y2 : x 2 = .string (((⟨#[111, 117, 116, 32]⟩ ++ (LS)) ++ (T0)) ++ ⟨#[32, 59]⟩) := hs 11 (by decide); go_wp2_with fail
   go_ret
   exact ⟨by first | rfl | (rw [y2]; rfl), HXD.out u hE⟩
set_option maxRecDepth 100000 in
set_option maxHeartbeats 4000000 in
theorem sh_in {x : Nd} (hz0 : ShC x) (hb0 : (jB (showW x)).size ≤ 160000) {m : Int} (v : Value) (w : World) (hx : NgAt w (.mk 13 noText m [x]) v) :
  Calls Tryz.prog 97 #[v] w fun e w' => e = .returned (.string ((((⟨#[105, 110, 32]⟩ ++ (labW (decide ((m : Int).tmod 2 = 1)) ++ bl1)) ++ jB (showW x)) ++ ⟨#[32, 59]⟩))) ∧ Ext w w' := by
 rw [ngAt_mk] at hx; obtain ⟨a, cc, rfl, hx1, hx2, hx3, hx4⟩ := hx; simp only [List.length_cons, List.length_nil, Nat.zero_add]; obtain ⟨b, o, k0, t0, m0, a0, n0, c0, rfl, hn0, hq0⟩ := kid_ok hx4 0 (by simp)
 have HQ0 : Hid (∀ u, Ext w u → u.cell? ⟨b, o, none⟩ = some (.int .i64 k0) ∧ u.cell? ⟨b, o + 1, none⟩ = some (.string t0) ∧ u.cell? ⟨b, o + 2, none⟩ = some (.int .i64 m0) ∧ u.cell? ⟨b, o + 3, none⟩ = some (.slice a0 n0 c0)) := by
  intro u hE; have h := hq0 u hE; simpa using h
 have HN0 := Z_ hn0; clear hn0 hq0; have hX1 := (Chg.refl (fun _ => False) w).alloc (.cells #[.int .i64 13, .string noText, .int .i64 m, .slice (some ⟨b, o, none⟩) 1 cc] 66); have HA := Z_ (Blk.made w #[.int .i64 13, .string noText, .int .i64 m, .slice (some ⟨b, o, none⟩) 1 cc] 66); have HX := Z_ hX1; obtain ⟨P, hP⟩ : ∃ P, w.heap.size = P := ⟨_, rfl⟩; rw [hP] at HA; have HLB := Z_ (label_any m); have hls : (labW (decide ((m : Int).tmod 2 = 1)) ++ bl1).size ≤ 10 := lab_size _; generalize labW (decide ((m : Int).tmod 2 = 1)) ++ bl1 = LS at *; have HC0 := Z_ (fun (u : World) (hE : Ext w u) => hz0 _ u (ng_ext2 HN0.out hE)); generalize jB (showW x) = T0 at *; clear hz0 HN0; clear hx1 hx2 hx3 hx4 hX1; go_enter Tryz.func97, Tryz.ntmps97
 go_upto_region 1 with (fail)
 try rw [hP]
 generalize w.alloc (.cells #[.int .i64 13, .string noText, .int .i64 m, .slice (some ⟨b, o, none⟩) 1 cc] 66) = w1 at *; clear hP; have q1 := HA.out.cell; obtain ⟨pS, hpS⟩ : ∃ pS, pubS m = pS := ⟨_, rfl⟩; have HPS := Z_ hpS; go_upto_if 21 with (fail)
 go_cut [4] from 21 to 21 (fun s w' => s = .string pS ∧ w' = w1)
 case first =>
  unfold pubS at hpS; by_cases hp2 : 2 ≤ (m : Int).tmod 4
  ·rw [if_pos hp2] at hpS
   subst hpS; go_wp2_with fail
   go_meet
   exact ⟨rfl, rfl⟩
  ·rw [if_neg hp2] at hpS
   subst hpS; go_wp2_with fail
   go_meet
   exact ⟨rfl, rfl⟩
 case rest =>
  obtain ⟨rfl, rfl⟩ := hcut; clear hpS; generalize wc = w1 at *; go_upto_region 48 with (fail)
  clear q1; have HAD : Hid (∀ u, Ext w1.drew u → Blk u P #[.int .i64 13, .string noText, .int .i64 m, .slice (some ⟨b, o, none⟩) 1 cc] 66) := fun u hE => HA.out.ext (((Chg.refl _ w1).drew).then hE)
  have HXD : Hid (∀ u, Ext w1.drew u → Ext w u) := fun u hE => HX.out.then (((Chg.refl _ w1).drew).then hE)
  refine wp_region_specs (fun i => ([.val (.pointer (some ⟨P, 2, none⟩)), .val (.int .i64 m), .val (.string (LS)), .val (.string (⟨#[105, 110, 32]⟩ ++ (LS))), .val (.pointer (some ⟨P, 3, none⟩)), .val (.slice (some ⟨b, o, none⟩) 1 cc), .val (.pointer (some ⟨b, o, none⟩)), .val (.agg #[.int .i64 k0, .string t0, .int .i64 m0, .slice a0 n0 c0]), .val (.string (T0)), .val (.string ((⟨#[105, 110, 32]⟩ ++ (LS)) ++ (T0))), .val (.string (((⟨#[105, 110, 32]⟩ ++ (LS)) ++ (T0)) ++ ⟨#[32, 59]⟩)), .val (.string (((⟨#[105, 110, 32]⟩ ++ (LS)) ++ (T0)) ++ ⟨#[32, 59]⟩))] : List Comes).getD i (.val undef)) (frame := ?frf) (fun x => ?hff) (by kernel_rfl) (by kernel_rfl) ?stf ?finf
  case hff =>
   simp only [specs.frameOf, specs.fill, specs.dstAt, List.size_toArray, List.length_cons, List.length_nil, List.getElem?_toArray, List.getElem?_cons_succ, List.getElem?_cons_zero, Option.getD_some, List.setIfInBounds_toArray, List.set_cons_succ, List.set_cons_zero]; exact rfl
  case stf =>
   refine AllFrom.cons (fun x u hE hd hr K hK => ?sf0) (AllFrom.cons (fun x u hE hd hr K hK => ?sf1) (AllFrom.cons (fun x u hE hd hr K hK => ?sf2) (AllFrom.cons (fun x u hE hd hr K hK => ?sf3) (AllFrom.cons (fun x u hE hd hr K hK => ?sf4) (AllFrom.cons (fun x u hE hd hr K hK => ?sf5) (AllFrom.cons (fun x u hE hd hr K hK => ?sf6) (AllFrom.cons (fun x u hE hd hr K hK => ?sf7) (AllFrom.cons (fun x u hE hd hr K hK => ?sf8) (AllFrom.cons (fun x u hE hd hr K hK => ?sf9) (AllFrom.cons (fun x u hE hd hr K hK => ?sf10) (AllFrom.cons (fun x u hE hd hr K hK => ?sf11) AllFrom.nil)))))))))))
   case sf0 =>
    clear hd hr; go_simp; exact hK.out _ _ _ rfl rfl (Chg.refl _ _)
   case sf1 =>
    have y227 : x 227 = .pointer (some ⟨P, 2, none⟩) := hd 0 (by decide) (by kernel_rfl); have hc := (HAD.out u hE).cell; clear hd hr; go_simp; exact hK.out _ _ _ (by simp only [y227]; rfl) rfl (Chg.refl _ _)
   case sf2 =>
    have y228 : x 228 = .int .i64 m := hd 1 (by decide) (by kernel_rfl); clear hd hr; go_simp; refine (HLB.out u).mono ?_
    rintro e w2 ⟨rfl, hE2⟩; exact hK.out _ _ _ (by simp only [y228]; rfl) rfl hE2
   case sf3 =>
    have y229 : x 229 = .string (LS) := hd 2 (by decide) (by kernel_rfl); clear hd hr; go_simp
    try (rw [if_neg (by omega)])
    try go_simp
    exact hK.out _ _ _ (by simp only [y229]; rfl) rfl (Chg.refl _ _)
   case sf4 =>
    clear hd hr; go_simp; exact hK.out _ _ _ rfl rfl (Chg.refl _ _)
   case sf5 =>
    have y231 : x 231 = .pointer (some ⟨P, 3, none⟩) := hd 4 (by decide) (by kernel_rfl); have hc := (HAD.out u hE).cell; clear hd hr; go_simp; exact hK.out _ _ _ (by simp only [y231]; rfl) rfl (Chg.refl _ _)
   case sf6 =>
    have y232 : x 232 = .slice (some ⟨b, o, none⟩) 1 cc := hd 5 (by decide) (by kernel_rfl); clear hd hr; go_simp; exact hK.out _ _ _ (by simp only [y232]; rfl) rfl (Chg.refl _ _)
   case sf7 =>
    have y233 : x 233 = .pointer (some ⟨b, o, none⟩) := hd 6 (by decide) (by kernel_rfl); obtain ⟨r0, r1, r2, r3⟩ := HQ0.out u (HXD.out u hE); clear hd hr; go_simp; exact hK.out _ _ _ (by simp only [y233]; rfl) rfl (Chg.refl _ _)
   case sf8 =>
    have y234 : x 234 = .agg #[.int .i64 k0, .string t0, .int .i64 m0, .slice a0 n0 c0] := hd 7 (by decide) (by kernel_rfl); clear hd hr; go_simp; refine (HC0.out u (HXD.out u hE)).mono ?_
    rintro e w2 ⟨rfl, hE2⟩; exact hK.out _ _ _ (by simp only [y234]; rfl) rfl hE2
   case sf9 =>
    have y230 : x 230 = .string (⟨#[105, 110, 32]⟩ ++ (LS)) := hd 3 (by decide) (by kernel_rfl); have y235 : x 235 = .string (T0) := hd 8 (by decide) (by kernel_rfl); clear hd hr; go_simp
    try (rw [if_neg (by omega)])
    try go_simp
    exact hK.out _ _ _ (by simp only [y230, y235]; rfl) rfl (Chg.refl _ _)
   case sf10 =>
    have y236 : x 236 = .string ((⟨#[105, 110, 32]⟩ ++ (LS)) ++ (T0)) := hd 9 (by decide) (by kernel_rfl); clear hd hr; go_simp
    try (rw [if_neg (by omega)])
    try go_simp
    exact hK.out _ _ _ (by simp only [y236]; rfl) rfl (Chg.refl _ _)
   case sf11 =>
    have y237 : x 237 = .string (((⟨#[105, 110, 32]⟩ ++ (LS)) ++ (T0)) ++ ⟨#[32, 59]⟩) := hd 10 (by decide) (by kernel_rfl); clear hd hr; go_simp; exact hK.out _ _ _ (by simp only [y237]; rfl) rfl (Chg.refl _ _)
  case finf =>
   intro x u hE hs; have y2 : x 2 = .string (((⟨#[105, 110, 32]⟩ ++ (LS)) ++ (T0)) ++ ⟨#[32, 59]⟩) := hs 11 (by decide); go_wp2_with fail
   go_ret
   exact ⟨by first | rfl | (rw [y2]; rfl), HXD.out u hE⟩
set_option maxRecDepth 100000 in
set_option maxHeartbeats 4000000 in
theorem sh_item {x : Nd} (hz0 : ShC x) (hb0 : (jB (showW x)).size ≤ 160000) {t : ByteArray} (ht : WholeT t) (hs : t.size ≤ 100) (hsw : (jB (wholeW t)).size ≤ 200) (v : Value) (w : World) (hx : NgAt w (.mk 17 t 0 [x]) v) :
  Calls Tryz.prog 97 #[v] w fun e w' => e = .returned (.string ((((jB (wholeW t) ++ ⟨#[32, 91, 32]⟩) ++ jB (showW x)) ++ ⟨#[32, 93]⟩))) ∧ Ext w w' := by
 rw [ngAt_mk] at hx; obtain ⟨a, cc, rfl, hx1, hx2, hx3, hx4⟩ := hx; simp only [List.length_cons, List.length_nil, Nat.zero_add]; obtain ⟨b, o, k0, t0, m0, a0, n0, c0, rfl, hn0, hq0⟩ := kid_ok hx4 0 (by simp)
 have HQ0 : Hid (∀ u, Ext w u → u.cell? ⟨b, o, none⟩ = some (.int .i64 k0) ∧ u.cell? ⟨b, o + 1, none⟩ = some (.string t0) ∧ u.cell? ⟨b, o + 2, none⟩ = some (.int .i64 m0) ∧ u.cell? ⟨b, o + 3, none⟩ = some (.slice a0 n0 c0)) := by
  intro u hE; have h := hq0 u hE; simpa using h
 have HN0 := Z_ hn0; clear hn0 hq0; have hX1 := (Chg.refl (fun _ => False) w).alloc (.cells #[.int .i64 17, .string t, .int .i64 0, .slice (some ⟨b, o, none⟩) 1 cc] 66); have HA := Z_ (Blk.made w #[.int .i64 17, .string t, .int .i64 0, .slice (some ⟨b, o, none⟩) 1 cc] 66); have HX := Z_ hX1; obtain ⟨P, hP⟩ : ∃ P, w.heap.size = P := ⟨_, rfl⟩; rw [hP] at HA; have HC0 := Z_ (fun (u : World) (hE : Ext w u) => hz0 _ u (ng_ext2 HN0.out hE)); generalize jB (showW x) = T0 at *; clear hz0 HN0; have HSP := Z_ (fun (u : World) => spaced_any t u ht hs); generalize jB (wholeW t) = TW at *; clear ht; clear hx1 hx2 hx3 hx4 hX1; go_enter Tryz.func97, Tryz.ntmps97
 go_upto_region 1 with (fail)
 try rw [hP]
 generalize w.alloc (.cells #[.int .i64 17, .string t, .int .i64 0, .slice (some ⟨b, o, none⟩) 1 cc] 66) = w1 at *; clear hP; have q1 := HA.out.cell; go_upto_region 56 with (fail)
 clear q1; have HAD : Hid (∀ u, Ext w1.drew u → Blk u P #[.int .i64 17, .string t, .int .i64 0, .slice (some ⟨b, o, none⟩) 1 cc] 66) := fun u hE => HA.out.ext (((Chg.refl _ w1).drew).then hE)
 have HXD : Hid (∀ u, Ext w1.drew u → Ext w u) := fun u hE => HX.out.then (((Chg.refl _ w1).drew).then hE)
 refine wp_region_specs (fun i => ([.val (.pointer (some ⟨P, 1, none⟩)), .val (.string t), .val (.string (TW)), .val (.string ((TW) ++ ⟨#[32, 91, 32]⟩)), .val (.pointer (some ⟨P, 3, none⟩)), .val (.slice (some ⟨b, o, none⟩) 1 cc), .val (.pointer (some ⟨b, o, none⟩)), .val (.agg #[.int .i64 k0, .string t0, .int .i64 m0, .slice a0 n0 c0]), .val (.string (T0)), .val (.string (((TW) ++ ⟨#[32, 91, 32]⟩) ++ (T0))), .val (.string ((((TW) ++ ⟨#[32, 91, 32]⟩) ++ (T0)) ++ ⟨#[32, 93]⟩)), .val (.string ((((TW) ++ ⟨#[32, 91, 32]⟩) ++ (T0)) ++ ⟨#[32, 93]⟩))] : List Comes).getD i (.val undef)) (frame := ?frg) (fun x => ?hfg) (by kernel_rfl) (by kernel_rfl) ?stg ?fing
 case hfg =>
  simp only [specs.frameOf, specs.fill, specs.dstAt, List.size_toArray, List.length_cons, List.length_nil, List.getElem?_toArray, List.getElem?_cons_succ, List.getElem?_cons_zero, Option.getD_some, List.setIfInBounds_toArray, List.set_cons_succ, List.set_cons_zero]; exact rfl
 case stg =>
  refine AllFrom.cons (fun x u hE hd hr K hK => ?sg0) (AllFrom.cons (fun x u hE hd hr K hK => ?sg1) (AllFrom.cons (fun x u hE hd hr K hK => ?sg2) (AllFrom.cons (fun x u hE hd hr K hK => ?sg3) (AllFrom.cons (fun x u hE hd hr K hK => ?sg4) (AllFrom.cons (fun x u hE hd hr K hK => ?sg5) (AllFrom.cons (fun x u hE hd hr K hK => ?sg6) (AllFrom.cons (fun x u hE hd hr K hK => ?sg7) (AllFrom.cons (fun x u hE hd hr K hK => ?sg8) (AllFrom.cons (fun x u hE hd hr K hK => ?sg9) (AllFrom.cons (fun x u hE hd hr K hK => ?sg10) (AllFrom.cons (fun x u hE hd hr K hK => ?sg11) AllFrom.nil)))))))))))
  case sg0 =>
   clear hd hr; go_simp; exact hK.out _ _ _ rfl rfl (Chg.refl _ _)
  case sg1 =>
   have y259 : x 259 = .pointer (some ⟨P, 1, none⟩) := hd 0 (by decide) (by kernel_rfl); have hc := (HAD.out u hE).cell; clear hd hr; go_simp; exact hK.out _ _ _ (by simp only [y259]; rfl) rfl (Chg.refl _ _)
  case sg2 =>
   have y260 : x 260 = .string t := hd 1 (by decide) (by kernel_rfl); clear hd hr; go_simp; refine (HSP.out u).mono ?_
   rintro e w2 ⟨rfl, hE2⟩; exact hK.out _ _ _ (by simp only [y260]; rfl) rfl hE2
  case sg3 =>
   have y261 : x 261 = .string (TW) := hd 2 (by decide) (by kernel_rfl); clear hd hr; go_simp
   try (rw [if_neg (by omega)])
   try go_simp
   exact hK.out _ _ _ (by simp only [y261]; rfl) rfl (Chg.refl _ _)
  case sg4 =>
   clear hd hr; go_simp; exact hK.out _ _ _ rfl rfl (Chg.refl _ _)
  case sg5 =>
   have y263 : x 263 = .pointer (some ⟨P, 3, none⟩) := hd 4 (by decide) (by kernel_rfl); have hc := (HAD.out u hE).cell; clear hd hr; go_simp; exact hK.out _ _ _ (by simp only [y263]; rfl) rfl (Chg.refl _ _)
  case sg6 =>
   have y264 : x 264 = .slice (some ⟨b, o, none⟩) 1 cc := hd 5 (by decide) (by kernel_rfl); clear hd hr; go_simp; exact hK.out _ _ _ (by simp only [y264]; rfl) rfl (Chg.refl _ _)
  case sg7 =>
   have y265 : x 265 = .pointer (some ⟨b, o, none⟩) := hd 6 (by decide) (by kernel_rfl); obtain ⟨r0, r1, r2, r3⟩ := HQ0.out u (HXD.out u hE); clear hd hr; go_simp; exact hK.out _ _ _ (by simp only [y265]; rfl) rfl (Chg.refl _ _)
  case sg8 =>
   have y266 : x 266 = .agg #[.int .i64 k0, .string t0, .int .i64 m0, .slice a0 n0 c0] := hd 7 (by decide) (by kernel_rfl); clear hd hr; go_simp; refine (HC0.out u (HXD.out u hE)).mono ?_
   rintro e w2 ⟨rfl, hE2⟩; exact hK.out _ _ _ (by simp only [y266]; rfl) rfl hE2
  case sg9 =>
   have y262 : x 262 = .string ((TW) ++ ⟨#[32, 91, 32]⟩) := hd 3 (by decide) (by kernel_rfl); have y267 : x 267 = .string (T0) := hd 8 (by decide) (by kernel_rfl); clear hd hr; go_simp
   try (rw [if_neg (by omega)])
   try go_simp
   exact hK.out _ _ _ (by simp only [y262, y267]; rfl) rfl (Chg.refl _ _)
  case sg10 =>
   have y268 : x 268 = .string (((TW) ++ ⟨#[32, 91, 32]⟩) ++ (T0)) := hd 9 (by decide) (by kernel_rfl); clear hd hr; go_simp
   try (rw [if_neg (by omega)])
   try go_simp
   exact hK.out _ _ _ (by simp only [y268]; rfl) rfl (Chg.refl _ _)
  case sg11 =>
   have y269 : x 269 = .string ((((TW) ++ ⟨#[32, 91, 32]⟩) ++ (T0)) ++ ⟨#[32, 93]⟩) := hd 10 (by decide) (by kernel_rfl); clear hd hr; go_simp; exact hK.out _ _ _ (by simp only [y269]; rfl) rfl (Chg.refl _ _)
 case fing =>
  intro x u hE hs; have y2 : x 2 = .string ((((TW) ++ ⟨#[32, 91, 32]⟩) ++ (T0)) ++ ⟨#[32, 93]⟩) := hs 11 (by decide); go_wp2_with fail
  go_ret
  exact ⟨by first | rfl | (rw [y2]; rfl), HXD.out u hE⟩
end rpr
end Go.Proofs.YtpcihajmcejliabGreatDoor
