/- The reference's Show, where more stands behind. The reference's Show, of a module. What Show shows is the words with blanks between. -/
import Derived.Test.YtpcihajmcejliabGreatDoorPrtE
import Derived.Test.YtpcihajmcejliabGreatDoorRPrV
import Derived.Test.YtpcihajmcejliabGreatDoorRPrY
namespace Go.Proofs.YtpcihajmcejliabGreatDoor
open Go.RowKit
namespace rpr
open synw synr prt
set_option maxRecDepth 100000 in
set_option maxHeartbeats 4000000 in
theorem sh_if2 {x y : Nd} (hz0 : ShC x) (hb0 : (jB (showW x)).size ≤ 160000) (hz1 : ShC y) (hb1 : (jB (showW y)).size ≤ 160000) (v : Value) (w : World) (hx : NgAt w (.mk 10 noText 0 [x, y]) v) :
  Calls Tryz.prog 97 #[v] w fun e w' => e = .returned (.string ((((⟨#[105, 102, 32, 40, 32]⟩ ++ jB (showW x)) ++ ⟨#[32, 41, 32]⟩) ++ jB (showW y)))) ∧ Ext w w' := by
 rw [ngAt_mk] at hx; obtain ⟨a, cc, rfl, hx1, hx2, hx3, hx4⟩ := hx; simp only [List.length_cons, List.length_nil, Nat.zero_add]; obtain ⟨b, o, k0, t0, m0, a0, n0, c0, rfl, hn0, hq0⟩ := kid_ok hx4 0 (by simp)
 have HQ0 : Hid (∀ u, Ext w u → u.cell? ⟨b, o, none⟩ = some (.int .i64 k0) ∧ u.cell? ⟨b, o + 1, none⟩ = some (.string t0) ∧ u.cell? ⟨b, o + 2, none⟩ = some (.int .i64 m0) ∧ u.cell? ⟨b, o + 3, none⟩ = some (.slice a0 n0 c0)) := by
  intro u hE; have h := hq0 u hE; simpa using h
 have HN0 := Z_ hn0; clear hn0 hq0; obtain ⟨b', o', k1, t1, m1, a1, n1, c1, e1, hn1, hq1⟩ := kid_ok hx4 1 (by simp); injection e1 with e1
 injection e1 with e1 f1 _
 subst e1 f1
 have HQ1 : Hid (∀ u, Ext w u → u.cell? ⟨b, o + 4, none⟩ = some (.int .i64 k1) ∧ u.cell? ⟨b, o + 4 + 1, none⟩ = some (.string t1) ∧ u.cell? ⟨b, o + 4 + 2, none⟩ = some (.int .i64 m1) ∧ u.cell? ⟨b, o + 4 + 3, none⟩ = some (.slice a1 n1 c1)) := by
  intro u hE; have h := hq1 u hE; simpa using h
 have HN1 := Z_ hn1; clear hn1 hq1; have hX1 := (Chg.refl (fun _ => False) w).alloc (.cells #[.int .i64 10, .string noText, .int .i64 0, .slice (some ⟨b, o, none⟩) 2 cc] 66); have HA := Z_ (Blk.made w #[.int .i64 10, .string noText, .int .i64 0, .slice (some ⟨b, o, none⟩) 2 cc] 66); have HX := Z_ hX1; obtain ⟨P, hP⟩ : ∃ P, w.heap.size = P := ⟨_, rfl⟩; rw [hP] at HA; have HC0 := Z_ (fun (u : World) (hE : Ext w u) => hz0 _ u (ng_ext2 HN0.out hE)); have HC1 := Z_ (fun (u : World) (hE : Ext w u) => hz1 _ u (ng_ext2 HN1.out hE)); generalize jB (showW x) = T0 at *; generalize jB (showW y) = T1 at *; clear hz0 HN0 hz1 HN1; clear hx1 hx2 hx3 hx4 hX1; go_enter Tryz.func97, Tryz.ntmps97
 go_upto_region 1 with (fail)
 try rw [hP]
 generalize w.alloc (.cells #[.int .i64 10, .string noText, .int .i64 0, .slice (some ⟨b, o, none⟩) 2 cc] 66) = w1 at *; clear hP; have q1 := HA.out.cell; go_upto_region 39 with (fail)
 clear q1; have HAD : Hid (∀ u, Ext w1.drew u → Blk u P #[.int .i64 10, .string noText, .int .i64 0, .slice (some ⟨b, o, none⟩) 2 cc] 66) := fun u hE => HA.out.ext (((Chg.refl _ w1).drew).then hE)
 have HXD : Hid (∀ u, Ext w1.drew u → Ext w u) := fun u hE => HX.out.then (((Chg.refl _ w1).drew).then hE)
 refine wp_region_specs (fun i => ([.val (.pointer (some ⟨P, 3, none⟩)), .val (.slice (some ⟨b, o, none⟩) 2 cc), .val (.pointer (some ⟨b, o, none⟩)), .val (.agg #[.int .i64 k0, .string t0, .int .i64 m0, .slice a0 n0 c0]), .val (.string (T0)), .val (.string (⟨#[105, 102, 32, 40, 32]⟩ ++ (T0))), .val (.string ((⟨#[105, 102, 32, 40, 32]⟩ ++ (T0)) ++ ⟨#[32, 41, 32]⟩)), .val (.pointer (some ⟨P, 3, none⟩)), .val (.slice (some ⟨b, o, none⟩) 2 cc), .val (.pointer (some ⟨b, o + 4, none⟩)), .val (.agg #[.int .i64 k1, .string t1, .int .i64 m1, .slice a1 n1 c1]), .val (.string (T1)), .val (.string (((⟨#[105, 102, 32, 40, 32]⟩ ++ (T0)) ++ ⟨#[32, 41, 32]⟩) ++ (T1))), .val (.string (((⟨#[105, 102, 32, 40, 32]⟩ ++ (T0)) ++ ⟨#[32, 41, 32]⟩) ++ (T1)))] : List Comes).getD i (.val undef)) (frame := ?frh) (fun x => ?hfh) (by kernel_rfl) (by kernel_rfl) ?sth ?finh
 case hfh =>
  simp only [specs.frameOf, specs.fill, specs.dstAt, List.size_toArray, List.length_cons, List.length_nil, List.getElem?_toArray, List.getElem?_cons_succ, List.getElem?_cons_zero, Option.getD_some, List.setIfInBounds_toArray, List.set_cons_succ, List.set_cons_zero]; exact rfl
 case sth =>
  refine AllFrom.cons (fun x u hE hd hr K hK => ?sh0) (AllFrom.cons (fun x u hE hd hr K hK => ?sh1) (AllFrom.cons (fun x u hE hd hr K hK => ?sh2) (AllFrom.cons (fun x u hE hd hr K hK => ?sh3) (AllFrom.cons (fun x u hE hd hr K hK => ?sh4) (AllFrom.cons (fun x u hE hd hr K hK => ?sh5) (AllFrom.cons (fun x u hE hd hr K hK => ?sh6) (AllFrom.cons (fun x u hE hd hr K hK => ?sh7) (AllFrom.cons (fun x u hE hd hr K hK => ?sh8) (AllFrom.cons (fun x u hE hd hr K hK => ?sh9) (AllFrom.cons (fun x u hE hd hr K hK => ?sh10) (AllFrom.cons (fun x u hE hd hr K hK => ?sh11) (AllFrom.cons (fun x u hE hd hr K hK => ?sh12) (AllFrom.cons (fun x u hE hd hr K hK => ?sh13) AllFrom.nil)))))))))))))
  case sh0 =>
   clear hd hr; go_simp; exact hK.out _ _ _ rfl rfl (Chg.refl _ _)
  case sh1 =>
   have y173 : x 173 = .pointer (some ⟨P, 3, none⟩) := hd 0 (by decide) (by kernel_rfl); have hc := (HAD.out u hE).cell; clear hd hr; go_simp; exact hK.out _ _ _ (by simp only [y173]; rfl) rfl (Chg.refl _ _)
  case sh2 =>
   have y174 : x 174 = .slice (some ⟨b, o, none⟩) 2 cc := hd 1 (by decide) (by kernel_rfl); clear hd hr; go_simp; exact hK.out _ _ _ (by simp only [y174]; rfl) rfl (Chg.refl _ _)
  case sh3 =>
   have y175 : x 175 = .pointer (some ⟨b, o, none⟩) := hd 2 (by decide) (by kernel_rfl); obtain ⟨r0, r1, r2, r3⟩ := HQ0.out u (HXD.out u hE); clear hd hr; go_simp; exact hK.out _ _ _ (by simp only [y175]; rfl) rfl (Chg.refl _ _)
  case sh4 =>
   have y176 : x 176 = .agg #[.int .i64 k0, .string t0, .int .i64 m0, .slice a0 n0 c0] := hd 3 (by decide) (by kernel_rfl); clear hd hr; go_simp; refine (HC0.out u (HXD.out u hE)).mono ?_
   rintro e w2 ⟨rfl, hE2⟩; exact hK.out _ _ _ (by simp only [y176]; rfl) rfl hE2
  case sh5 =>
   have y177 : x 177 = .string (T0) := hd 4 (by decide) (by kernel_rfl); clear hd hr; go_simp
   try (rw [if_neg (by omega)])
   try go_simp
   exact hK.out _ _ _ (by simp only [y177]; rfl) rfl (Chg.refl _ _)
  case sh6 =>
   have y178 : x 178 = .string (⟨#[105, 102, 32, 40, 32]⟩ ++ (T0)) := hd 5 (by decide) (by kernel_rfl); clear hd hr; go_simp
   try (rw [if_neg (by omega)])
   try go_simp
   exact hK.out _ _ _ (by simp only [y178]; rfl) rfl (Chg.refl _ _)
  case sh7 =>
   clear hd hr; go_simp; exact hK.out _ _ _ rfl rfl (Chg.refl _ _)
  case sh8 =>
   have y180 : x 180 = .pointer (some ⟨P, 3, none⟩) := hd 7 (by decide) (by kernel_rfl); have hc := (HAD.out u hE).cell; clear hd hr; go_simp; exact hK.out _ _ _ (by simp only [y180]; rfl) rfl (Chg.refl _ _)
  case sh9 =>
   have y181 : x 181 = .slice (some ⟨b, o, none⟩) 2 cc := hd 8 (by decide) (by kernel_rfl); clear hd hr; go_simp; exact hK.out _ _ _ (by simp only [y181]; rfl) rfl (Chg.refl _ _)
  case sh10 =>
   have y182 : x 182 = .pointer (some ⟨b, o + 4, none⟩) := hd 9 (by decide) (by kernel_rfl); obtain ⟨r0, r1, r2, r3⟩ := HQ1.out u (HXD.out u hE); clear hd hr; go_simp; exact hK.out _ _ _ (by simp only [y182]; rfl) rfl (Chg.refl _ _)
  case sh11 =>
   have y183 : x 183 = .agg #[.int .i64 k1, .string t1, .int .i64 m1, .slice a1 n1 c1] := hd 10 (by decide) (by kernel_rfl); clear hd hr; go_simp; refine (HC1.out u (HXD.out u hE)).mono ?_
   rintro e w2 ⟨rfl, hE2⟩; exact hK.out _ _ _ (by simp only [y183]; rfl) rfl hE2
  case sh12 =>
   have y179 : x 179 = .string ((⟨#[105, 102, 32, 40, 32]⟩ ++ (T0)) ++ ⟨#[32, 41, 32]⟩) := hd 6 (by decide) (by kernel_rfl); have y184 : x 184 = .string (T1) := hd 11 (by decide) (by kernel_rfl); clear hd hr; go_simp
   try (rw [if_neg (by omega)])
   try go_simp
   exact hK.out _ _ _ (by simp only [y179, y184]; rfl) rfl (Chg.refl _ _)
  case sh13 =>
   have y185 : x 185 = .string (((⟨#[105, 102, 32, 40, 32]⟩ ++ (T0)) ++ ⟨#[32, 41, 32]⟩) ++ (T1)) := hd 12 (by decide) (by kernel_rfl); clear hd hr; go_simp; exact hK.out _ _ _ (by simp only [y185]; rfl) rfl (Chg.refl _ _)
 case finh =>
  intro x u hE hs; have y10 : x 10 = .string (((⟨#[105, 102, 32, 40, 32]⟩ ++ (T0)) ++ ⟨#[32, 41, 32]⟩) ++ (T1)) := hs 13 (by decide); go_wp2_with fail
  go_ret
  exact ⟨by first | rfl | (rw [y10]; rfl), HXD.out u hE⟩
set_option maxRecDepth 100000 in
set_option maxHeartbeats 4000000 in
theorem sh_if3 {x y z : Nd} (hz0 : ShC x) (hb0 : (jB (showW x)).size ≤ 160000) (hz1 : ShC y) (hb1 : (jB (showW y)).size ≤ 160000) (hz2 : ShC z) (hb2 : (jB (showW z)).size ≤ 160000) (v : Value) (w : World) (hx : NgAt w (.mk 10 noText 0 [x, y, z]) v) :
  Calls Tryz.prog 97 #[v] w fun e w' => e = .returned (.string (((((⟨#[105, 102, 32, 40, 32]⟩ ++ jB (showW x)) ++ ⟨#[32, 41, 32]⟩) ++ jB (showW y)) ++ ⟨#[32, 101, 108, 115, 101, 32]⟩) ++ jB (showW z))) ∧ Ext w w' := by
 rw [ngAt_mk] at hx; obtain ⟨a, cc, rfl, hx1, hx2, hx3, hx4⟩ := hx; simp only [List.length_cons, List.length_nil, Nat.zero_add]; obtain ⟨b, o, k0, t0, m0, a0, n0, c0, rfl, hn0, hq0⟩ := kid_ok hx4 0 (by simp)
 have HQ0 : Hid (∀ u, Ext w u → u.cell? ⟨b, o, none⟩ = some (.int .i64 k0) ∧ u.cell? ⟨b, o + 1, none⟩ = some (.string t0) ∧ u.cell? ⟨b, o + 2, none⟩ = some (.int .i64 m0) ∧ u.cell? ⟨b, o + 3, none⟩ = some (.slice a0 n0 c0)) := by
  intro u hE; have h := hq0 u hE; simpa using h
 have HN0 := Z_ hn0; clear hn0 hq0; obtain ⟨b', o', k1, t1, m1, a1, n1, c1, e1, hn1, hq1⟩ := kid_ok hx4 1 (by simp); injection e1 with e1
 injection e1 with e1 f1 _
 subst e1 f1
 have HQ1 : Hid (∀ u, Ext w u → u.cell? ⟨b, o + 4, none⟩ = some (.int .i64 k1) ∧ u.cell? ⟨b, o + 4 + 1, none⟩ = some (.string t1) ∧ u.cell? ⟨b, o + 4 + 2, none⟩ = some (.int .i64 m1) ∧ u.cell? ⟨b, o + 4 + 3, none⟩ = some (.slice a1 n1 c1)) := by
  intro u hE; have h := hq1 u hE; simpa using h
 have HN1 := Z_ hn1; clear hn1 hq1; obtain ⟨b', o', k2, t2, m2, a2, n2, c2, e2, hn2, hq2⟩ := kid_ok hx4 2 (by simp); injection e2 with e2
 injection e2 with e2 f2 _
 subst e2 f2
 have HQ2 : Hid (∀ u, Ext w u → u.cell? ⟨b, o + 8, none⟩ = some (.int .i64 k2) ∧ u.cell? ⟨b, o + 8 + 1, none⟩ = some (.string t2) ∧ u.cell? ⟨b, o + 8 + 2, none⟩ = some (.int .i64 m2) ∧ u.cell? ⟨b, o + 8 + 3, none⟩ = some (.slice a2 n2 c2)) := by
  intro u hE; have h := hq2 u hE; simpa using h
 have HN2 := Z_ hn2; clear hn2 hq2; have hX1 := (Chg.refl (fun _ => False) w).alloc (.cells #[.int .i64 10, .string noText, .int .i64 0, .slice (some ⟨b, o, none⟩) 3 cc] 66); have HA := Z_ (Blk.made w #[.int .i64 10, .string noText, .int .i64 0, .slice (some ⟨b, o, none⟩) 3 cc] 66); have HX := Z_ hX1; obtain ⟨P, hP⟩ : ∃ P, w.heap.size = P := ⟨_, rfl⟩; rw [hP] at HA; have HC0 := Z_ (fun (u : World) (hE : Ext w u) => hz0 _ u (ng_ext2 HN0.out hE)); have HC1 := Z_ (fun (u : World) (hE : Ext w u) => hz1 _ u (ng_ext2 HN1.out hE)); have HC2 := Z_ (fun (u : World) (hE : Ext w u) => hz2 _ u (ng_ext2 HN2.out hE)); generalize jB (showW x) = T0 at *; generalize jB (showW y) = T1 at *; generalize jB (showW z) = T2 at *; clear hz0 HN0 hz1 HN1 hz2 HN2; clear hx1 hx2 hx3 hx4 hX1; go_enter Tryz.func97, Tryz.ntmps97
 go_upto_region 1 with (fail)
 try rw [hP]
 generalize w.alloc (.cells #[.int .i64 10, .string noText, .int .i64 0, .slice (some ⟨b, o, none⟩) 3 cc] 66) = w1 at *; clear hP; have q1 := HA.out.cell; go_upto_region 39 with (fail)
 clear q1; have HAD : Hid (∀ u, Ext w1.drew u → Blk u P #[.int .i64 10, .string noText, .int .i64 0, .slice (some ⟨b, o, none⟩) 3 cc] 66) := fun u hE => HA.out.ext (((Chg.refl _ w1).drew).then hE)
 have HXD : Hid (∀ u, Ext w1.drew u → Ext w u) := fun u hE => HX.out.then (((Chg.refl _ w1).drew).then hE)
 refine wp_region_specs (fun i => ([.val (.pointer (some ⟨P, 3, none⟩)), .val (.slice (some ⟨b, o, none⟩) 3 cc), .val (.pointer (some ⟨b, o, none⟩)), .val (.agg #[.int .i64 k0, .string t0, .int .i64 m0, .slice a0 n0 c0]), .val (.string (T0)), .val (.string (⟨#[105, 102, 32, 40, 32]⟩ ++ (T0))), .val (.string ((⟨#[105, 102, 32, 40, 32]⟩ ++ (T0)) ++ ⟨#[32, 41, 32]⟩)), .val (.pointer (some ⟨P, 3, none⟩)), .val (.slice (some ⟨b, o, none⟩) 3 cc), .val (.pointer (some ⟨b, o + 4, none⟩)), .val (.agg #[.int .i64 k1, .string t1, .int .i64 m1, .slice a1 n1 c1]), .val (.string (T1)), .val (.string (((⟨#[105, 102, 32, 40, 32]⟩ ++ (T0)) ++ ⟨#[32, 41, 32]⟩) ++ (T1))), .val (.string (((⟨#[105, 102, 32, 40, 32]⟩ ++ (T0)) ++ ⟨#[32, 41, 32]⟩) ++ (T1)))] : List Comes).getD i (.val undef)) (frame := ?frz9) (fun x => ?hfz9) (by kernel_rfl) (by kernel_rfl) ?stz9 ?finz9
 case hfz9 =>
  simp only [specs.frameOf, specs.fill, specs.dstAt, List.size_toArray, List.length_cons, List.length_nil, List.getElem?_toArray, List.getElem?_cons_succ, List.getElem?_cons_zero, Option.getD_some, List.setIfInBounds_toArray, List.set_cons_succ, List.set_cons_zero]; exact rfl
 case stz9 =>
  refine AllFrom.cons (fun x u hE hd hr K hK => ?sz90) (AllFrom.cons (fun x u hE hd hr K hK => ?sz91) (AllFrom.cons (fun x u hE hd hr K hK => ?sz92) (AllFrom.cons (fun x u hE hd hr K hK => ?sz93) (AllFrom.cons (fun x u hE hd hr K hK => ?sz94) (AllFrom.cons (fun x u hE hd hr K hK => ?sz95) (AllFrom.cons (fun x u hE hd hr K hK => ?sz96) (AllFrom.cons (fun x u hE hd hr K hK => ?sz97) (AllFrom.cons (fun x u hE hd hr K hK => ?sz98) (AllFrom.cons (fun x u hE hd hr K hK => ?sz99) (AllFrom.cons (fun x u hE hd hr K hK => ?sz910) (AllFrom.cons (fun x u hE hd hr K hK => ?sz911) (AllFrom.cons (fun x u hE hd hr K hK => ?sz912) (AllFrom.cons (fun x u hE hd hr K hK => ?sz913) AllFrom.nil)))))))))))))
  case sz90 =>
   clear hd hr; go_simp; exact hK.out _ _ _ rfl rfl (Chg.refl _ _)
  case sz91 =>
   have y173 : x 173 = .pointer (some ⟨P, 3, none⟩) := hd 0 (by decide) (by kernel_rfl); have hc := (HAD.out u hE).cell; clear hd hr; go_simp; exact hK.out _ _ _ (by simp only [y173]; rfl) rfl (Chg.refl _ _)
  case sz92 =>
   have y174 : x 174 = .slice (some ⟨b, o, none⟩) 3 cc := hd 1 (by decide) (by kernel_rfl); clear hd hr; go_simp; exact hK.out _ _ _ (by simp only [y174]; rfl) rfl (Chg.refl _ _)
  case sz93 =>
   have y175 : x 175 = .pointer (some ⟨b, o, none⟩) := hd 2 (by decide) (by kernel_rfl); obtain ⟨r0, r1, r2, r3⟩ := HQ0.out u (HXD.out u hE); clear hd hr; go_simp; exact hK.out _ _ _ (by simp only [y175]; rfl) rfl (Chg.refl _ _)
  case sz94 =>
   have y176 : x 176 = .agg #[.int .i64 k0, .string t0, .int .i64 m0, .slice a0 n0 c0] := hd 3 (by decide) (by kernel_rfl); clear hd hr; go_simp; refine (HC0.out u (HXD.out u hE)).mono ?_
   rintro e w2 ⟨rfl, hE2⟩; exact hK.out _ _ _ (by simp only [y176]; rfl) rfl hE2
  case sz95 =>
   have y177 : x 177 = .string (T0) := hd 4 (by decide) (by kernel_rfl); clear hd hr; go_simp
   try (rw [if_neg (by omega)])
   try go_simp
   exact hK.out _ _ _ (by simp only [y177]; rfl) rfl (Chg.refl _ _)
  case sz96 =>
   have y178 : x 178 = .string (⟨#[105, 102, 32, 40, 32]⟩ ++ (T0)) := hd 5 (by decide) (by kernel_rfl); clear hd hr; go_simp
   try (rw [if_neg (by omega)])
   try go_simp
   exact hK.out _ _ _ (by simp only [y178]; rfl) rfl (Chg.refl _ _)
  case sz97 =>
   clear hd hr; go_simp; exact hK.out _ _ _ rfl rfl (Chg.refl _ _)
  case sz98 =>
   have y180 : x 180 = .pointer (some ⟨P, 3, none⟩) := hd 7 (by decide) (by kernel_rfl); have hc := (HAD.out u hE).cell; clear hd hr; go_simp; exact hK.out _ _ _ (by simp only [y180]; rfl) rfl (Chg.refl _ _)
  case sz99 =>
   have y181 : x 181 = .slice (some ⟨b, o, none⟩) 3 cc := hd 8 (by decide) (by kernel_rfl); clear hd hr; go_simp; exact hK.out _ _ _ (by simp only [y181]; rfl) rfl (Chg.refl _ _)
  case sz910 =>
   have y182 : x 182 = .pointer (some ⟨b, o + 4, none⟩) := hd 9 (by decide) (by kernel_rfl); obtain ⟨r0, r1, r2, r3⟩ := HQ1.out u (HXD.out u hE); clear hd hr; go_simp; exact hK.out _ _ _ (by simp only [y182]; rfl) rfl (Chg.refl _ _)
  case sz911 =>
   have y183 : x 183 = .agg #[.int .i64 k1, .string t1, .int .i64 m1, .slice a1 n1 c1] := hd 10 (by decide) (by kernel_rfl); clear hd hr; go_simp; refine (HC1.out u (HXD.out u hE)).mono ?_
   rintro e w2 ⟨rfl, hE2⟩; exact hK.out _ _ _ (by simp only [y183]; rfl) rfl hE2
  case sz912 =>
   have y179 : x 179 = .string ((⟨#[105, 102, 32, 40, 32]⟩ ++ (T0)) ++ ⟨#[32, 41, 32]⟩) := hd 6 (by decide) (by kernel_rfl); have y184 : x 184 = .string (T1) := hd 11 (by decide) (by kernel_rfl); clear hd hr; go_simp
   try (rw [if_neg (by omega)])
   try go_simp
   exact hK.out _ _ _ (by simp only [y179, y184]; rfl) rfl (Chg.refl _ _)
  case sz913 =>
   have y185 : x 185 = .string (((⟨#[105, 102, 32, 40, 32]⟩ ++ (T0)) ++ ⟨#[32, 41, 32]⟩) ++ (T1)) := hd 12 (by decide) (by kernel_rfl); clear hd hr; go_simp; exact hK.out _ _ _ (by simp only [y185]; rfl) rfl (Chg.refl _ _)
 case finz9 =>
  intro x u hE hs; have y10 : x 10 = .string (((⟨#[105, 102, 32, 40, 32]⟩ ++ (T0)) ++ ⟨#[32, 41, 32]⟩) ++ (T1)) := hs 13 (by decide); have HE3 := Z_ (HXD.out u hE); have hq2c := (HAD.out u hE).cell; obtain ⟨r0, r1, r2, r3⟩ := HQ2.out u HE3.out; clear hE hs; go_wp2_with fail
  refine (HC2.out _ HE3.out).mono ?_
  rintro e w2 ⟨rfl, hE2⟩; clear hq2c r0 r1 r2 r3; go_wp2_with fail
  go_ret
  exact ⟨by first | rfl | (rw [y10]; rfl), HE3.out.ext hE2⟩
set_option maxRecDepth 100000 in
set_option maxHeartbeats 4000000 in
theorem sh_call (l : List Nd) {t : ByteArray} (ht : WholeT t) (hs : t.size ≤ 100) (hsw : (jB (wholeW t)).size ≤ 200) (hz : ∀ y ∈ l, ShC y) (hl : l.length ≤ 500) (hb : ∀ y ∈ l, (jB (showW y)).size ≤ 160000) (v : Value) (w : World) (hx : NgAt w (.mk 18 t 0 l) v) :
  Calls Tryz.prog 97 #[v] w fun e w' => e = .returned (.string ((jB (wholeW t) ++ ⟨#[32]⟩) ++ (if l.length = 0 then ⟨#[40, 32, 41]⟩ else (⟨#[40, 32]⟩ ++ lstS ⟨#[32, 44, 32]⟩ 0 l ⟨#[]⟩) ++ ⟨#[32, 41]⟩))) ∧ Ext w w' := by
 rw [ngAt_mk] at hx; obtain ⟨a, cc, rfl, hx1, hx2, hx3, hx4⟩ := hx; obtain ⟨N, hN⟩ : ∃ N, l.length = N := ⟨_, rfl⟩; have HNN := Z_ hN; have HROW : Hid (∀ u, Ext w u → AllIn 4 NgIn u a l) := fun u hE => hx4.keeps (ng_keep2 hE) fun b o y => ngIn_keeps (ng_keep2 hE) b o y
 have hlN : N ≤ 500 := by omega
 have HC := Z_ (fun (u : World) (hE : Ext w u) => round_any l hz a cc u (HROW.out u hE) hl hb); have HSP := Z_ (fun (u : World) => spaced_any t u ht hs); have hTs := lst_le ⟨#[32, 44, 32]⟩ (by decide) l 0 ⟨#[]⟩ hb
 have hRs : (if l.length = 0 then (⟨#[40, 32, 41]⟩ : ByteArray) else (⟨#[40, 32]⟩ ++ lstS ⟨#[32, 44, 32]⟩ 0 l ⟨#[]⟩) ++ ⟨#[32, 41]⟩).size ≤ 80001600 := by
  have h9 : (⟨#[]⟩ : ByteArray).size = 0 := rfl; split
  ·exact (show (3 : Nat) ≤ _ by decide)
  ·simp only [ByteArray.size_append]
   have h8 : (⟨#[40, 32]⟩ : ByteArray).size = 2 := rfl; have h7 : (⟨#[32, 41]⟩ : ByteArray).size = 2 := rfl; omega
 generalize (if l.length = 0 then (⟨#[40, 32, 41]⟩ : ByteArray) else (⟨#[40, 32]⟩ ++ lstS ⟨#[32, 44, 32]⟩ 0 l ⟨#[]⟩) ++ ⟨#[32, 41]⟩) = RT at *; generalize jB (wholeW t) = TW at *; clear hTs hz hb HROW ht; rw [hN] at *; have hX1 := (Chg.refl (fun _ => False) w).alloc (.cells #[.int .i64 18, .string t, .int .i64 0, .slice a N cc] 66); have HA := Z_ (Blk.made w #[.int .i64 18, .string t, .int .i64 0, .slice a N cc] 66); have HX := Z_ hX1; obtain ⟨P, hP⟩ : ∃ P, w.heap.size = P := ⟨_, rfl⟩; rw [hP] at HA; clear hx1 hx2 hx3 hx4 hX1 hN; go_enter Tryz.func97, Tryz.ntmps97
 go_upto_region 1 with (fail)
 try rw [hP]
 generalize w.alloc (.cells #[.int .i64 18, .string t, .int .i64 0, .slice a N cc] 66) = w1 at *; clear hP; have q1 := HA.out.cell; go_upto_region 58 with (fail)
 clear q1; have HAD : Hid (∀ u, Ext w1.drew u → Blk u P #[.int .i64 18, .string t, .int .i64 0, .slice a N cc] 66) := fun u hE => HA.out.ext (((Chg.refl _ w1).drew).then hE)
 have HXD : Hid (∀ u, Ext w1.drew u → Ext w u) := fun u hE => HX.out.then (((Chg.refl _ w1).drew).then hE)
 refine wp_region_specs (fun i => ([.val (.pointer (some ⟨P, 1, none⟩)), .val (.string t), .val (.string (TW)), .val (.string ((TW) ++ ⟨#[32]⟩)), .val (.pointer (some ⟨P, 3, none⟩)), .val (.slice a N cc), .val (.string (RT)), .val (.string (((TW) ++ ⟨#[32]⟩) ++ (RT))), .val (.string (((TW) ++ ⟨#[32]⟩) ++ (RT)))] : List Comes).getD i (.val undef)) (frame := ?frz10) (fun x => ?hfz10) (by kernel_rfl) (by kernel_rfl) ?stz10 ?finz10
 case hfz10 =>
  simp only [specs.frameOf, specs.fill, specs.dstAt, List.size_toArray, List.length_cons, List.length_nil, List.getElem?_toArray, List.getElem?_cons_succ, List.getElem?_cons_zero, Option.getD_some, List.setIfInBounds_toArray, List.set_cons_succ, List.set_cons_zero]; exact rfl
 case stz10 =>
  refine AllFrom.cons (fun x u hE hd hr K hK => ?sz100) (AllFrom.cons (fun x u hE hd hr K hK => ?sz101) (AllFrom.cons (fun x u hE hd hr K hK => ?sz102) (AllFrom.cons (fun x u hE hd hr K hK => ?sz103) (AllFrom.cons (fun x u hE hd hr K hK => ?sz104) (AllFrom.cons (fun x u hE hd hr K hK => ?sz105) (AllFrom.cons (fun x u hE hd hr K hK => ?sz106) (AllFrom.cons (fun x u hE hd hr K hK => ?sz107) (AllFrom.cons (fun x u hE hd hr K hK => ?sz108) AllFrom.nil))))))))
  case sz100 =>
   clear hd hr; go_simp; exact hK.out _ _ _ rfl rfl (Chg.refl _ _)
  case sz101 =>
   have y272 : x 272 = .pointer (some ⟨P, 1, none⟩) := hd 0 (by decide) (by kernel_rfl); have hc := (HAD.out u hE).cell; clear hd hr; go_simp; exact hK.out _ _ _ (by simp only [y272]; rfl) rfl (Chg.refl _ _)
  case sz102 =>
   have y273 : x 273 = .string t := hd 1 (by decide) (by kernel_rfl); clear hd hr; go_simp; refine (HSP.out u).mono ?_
   rintro e w2 ⟨rfl, hE2⟩; exact hK.out _ _ _ (by simp only [y273]; rfl) rfl hE2
  case sz103 =>
   have y274 : x 274 = .string (TW) := hd 2 (by decide) (by kernel_rfl); clear hd hr; go_simp
   try (rw [if_neg (by omega)])
   try go_simp
   exact hK.out _ _ _ (by simp only [y274]; rfl) rfl (Chg.refl _ _)
  case sz104 =>
   clear hd hr; go_simp; exact hK.out _ _ _ rfl rfl (Chg.refl _ _)
  case sz105 =>
   have y276 : x 276 = .pointer (some ⟨P, 3, none⟩) := hd 4 (by decide) (by kernel_rfl); have hc := (HAD.out u hE).cell; clear hd hr; go_simp; exact hK.out _ _ _ (by simp only [y276]; rfl) rfl (Chg.refl _ _)
  case sz106 =>
   have y277 : x 277 = .slice a N cc := hd 5 (by decide) (by kernel_rfl); clear hd hr; go_simp; refine (HC.out u (HXD.out u hE)).mono ?_
   rintro e w2 ⟨rfl, hE2⟩; exact hK.out _ _ _ (by simp only [y277]; rfl) rfl hE2
  case sz107 =>
   have y275 : x 275 = .string ((TW) ++ ⟨#[32]⟩) := hd 3 (by decide) (by kernel_rfl); have y278 : x 278 = .string (RT) := hd 6 (by decide) (by kernel_rfl); clear hd hr; go_simp
   try (rw [if_neg (by omega)])
   try go_simp
   exact hK.out _ _ _ (by simp only [y275, y278]; rfl) rfl (Chg.refl _ _)
  case sz108 =>
   have y279 : x 279 = .string (((TW) ++ ⟨#[32]⟩) ++ (RT)) := hd 7 (by decide) (by kernel_rfl); clear hd hr; go_simp; exact hK.out _ _ _ (by simp only [y279]; rfl) rfl (Chg.refl _ _)
 case finz10 =>
  intro x u hE hs; have y2 : x 2 = .string (((TW) ++ ⟨#[32]⟩) ++ (RT)) := hs 8 (by decide); go_wp2_with fail
  go_ret
  exact ⟨by first | rfl | (rw [y2]; rfl), HXD.out u hE⟩
set_option maxRecDepth 100000 in
set_option maxHeartbeats 4000000 in
theorem sh_op {x y : Nd} {m lv lf : Int} {sg : ByteArray} (hsg : signF m = (sg, lv)) (hlf : (if lv = 0 then 1 else lv) = lf) (hlv : 0 ≤ lv) (hlv2 : lv ≤ 2) (hss : sg.size ≤ 2) (hX : IsNd x) (hke : KdE x.kd) (hY : IsNd y) (hke2 : KdE y.kd) (hz : ShC x) (hz2 : ShC y) (hb0 : (jB (exP 0 x).2).size ≤ 160000) (hc0 : (jB (exP 0 y).2).size ≤ 160000) (hb : (jB (exP lf x).2).size ≤ 160000) (hc : (jB (exP (lv + 1) y).2).size ≤ 160000) (v : Value) (w : World) (hx : NgAt w (.mk 19 noText m [x, y]) v) :
  Calls Tryz.prog 97 #[v] w fun e w' => e = .returned (.string ((((jB (exP lf x).2 ++ ⟨#[32]⟩) ++ sg) ++ ⟨#[32]⟩) ++ jB (exP (lv + 1) y).2)) ∧ Ext w w' := by
 rw [ngAt_mk] at hx; obtain ⟨a, cc, rfl, hx1, hx2, hx3, hx4⟩ := hx; simp only [List.length_cons, List.length_nil, Nat.zero_add]; obtain ⟨b, o, k0, t0, m0, a0, n0, c0, rfl, hn0, hq0⟩ := kid_ok hx4 0 (by simp)
 have HQ0 : Hid (∀ u, Ext w u → u.cell? ⟨b, o, none⟩ = some (.int .i64 k0) ∧ u.cell? ⟨b, o + 1, none⟩ = some (.string t0) ∧ u.cell? ⟨b, o + 2, none⟩ = some (.int .i64 m0) ∧ u.cell? ⟨b, o + 3, none⟩ = some (.slice a0 n0 c0)) := by
  intro u hE; have h := hq0 u hE; simpa using h
 have HN0 := Z_ hn0; clear hn0 hq0; obtain ⟨b', o', k1, t1, m1, a1, n1, c1, e1, hn1, hq1⟩ := kid_ok hx4 1 (by simp); injection e1 with e1
 injection e1 with e1 f1 _
 subst e1 f1
 have HQ1 : Hid (∀ u, Ext w u → u.cell? ⟨b, o + 4, none⟩ = some (.int .i64 k1) ∧ u.cell? ⟨b, o + 4 + 1, none⟩ = some (.string t1) ∧ u.cell? ⟨b, o + 4 + 2, none⟩ = some (.int .i64 m1) ∧ u.cell? ⟨b, o + 4 + 3, none⟩ = some (.slice a1 n1 c1)) := by
  intro u hE; have h := hq1 u hE; simpa using h
 have HN1 := Z_ hn1; clear hn1 hq1; have hX1 := (Chg.refl (fun _ => False) w).alloc (.cells #[.int .i64 19, .string noText, .int .i64 m, .slice (some ⟨b, o, none⟩) 2 cc] 66); have HA := Z_ (Blk.made w #[.int .i64 19, .string noText, .int .i64 m, .slice (some ⟨b, o, none⟩) 2 cc] 66); have HX := Z_ hX1; obtain ⟨P, hP⟩ : ∃ P, w.heap.size = P := ⟨_, rfl⟩; rw [hP] at HA; have HC0 := Z_ (fun (u : World) (hE : Ext w u) => at_any x hX hke hz lf _ u hb0 (ng_ext2 HN0.out hE)); have HC1 := Z_ (fun (u : World) (hE : Ext w u) => at_any y hY hke2 hz2 (lv + 1) _ u hc0 (ng_ext2 HN1.out hE)); have HSG := Z_ (signOf_any m); rw [hsg] at HSG; generalize jB (exP lf x).2 = T0 at *; generalize jB (exP (lv + 1) y).2 = T1 at *; have HLF := Z_ hlf; have hlw : IntKind.i64.wrap (lv + 1) = lv + 1 := wrap_small _ (by omega) (by omega); have hlw2 : wrap64 (lv + 1) = lv + 1 := by unfold wrap64; omega
 clear hz hz2 HN0 HN1 hX hke hY hke2 hb0 hc0 hsg hlf; clear hx1 hx2 hx3 hx4 hX1; go_enter Tryz.func97, Tryz.ntmps97
 go_upto_region 1 with (fail)
 try rw [hP]
 generalize w.alloc (.cells #[.int .i64 19, .string noText, .int .i64 m, .slice (some ⟨b, o, none⟩) 2 cc] 66) = w1 at *; clear hP; have q1 := HA.out.cell; obtain ⟨pS, hpS⟩ : ∃ pS, pubS m = pS := ⟨_, rfl⟩; have HPS := Z_ hpS; go_upto_if 21 with (fail)
 go_cut [4] from 21 to 21 (fun s w' => s = .string pS ∧ w' = w1)
 case first =>
  unfold pubS at hpS; by_cases hp2 : 2 ≤ (m : Int).tmod 4
  ·rw [if_pos hp2] at hpS
   subst hpS; go_wp2_with fail
   go_meet
   exact ⟨rfl, rfl⟩
  ·rw [if_neg hp2] at hpS
   subst hpS; go_wp2_with fail
   go_meet
   exact ⟨rfl, rfl⟩
 case rest =>
  obtain ⟨rfl, rfl⟩ := hcut; clear hpS; generalize wc = w1 at *; go_wp2_with fail
  refine (HSG.out _).mono ?_
  rintro e w2 ⟨rfl, hE2⟩; replace HX := Z_ (HX.out.ext hE2); replace HA := Z_ (HA.out.ext hE2); clear q1 hE2 HSG; go_upto_if 304 with (fail)
  go_cut [13] from 304 to 304 (fun s w' => s = .int .i64 lf ∧ w' = w2)
  case first =>
   by_cases hz : lv = 0
   ·subst hz
    obtain rfl : lf = 1 := HLF.out.symm; go_wp2_with fail
    go_meet
    exact ⟨rfl, rfl⟩
   ·have hzb : (lv == 0) = false := beq_eq_false_iff_ne.2 hz
    obtain rfl : lv = lf := by rw [← HLF.out, if_neg hz]
    go_wp2_with fail
    go_meet
    exact ⟨rfl, rfl⟩
  case rest =>
   obtain ⟨rfl, rfl⟩ := hcut; generalize wc = w2 at *; go_upto_region 67 with (fail)
   have HAD : Hid (∀ u, Ext w2.drew u → Blk u P #[.int .i64 19, .string noText, .int .i64 m, .slice (some ⟨b, o, none⟩) 2 cc] 66) := fun u hE => HA.out.ext (((Chg.refl _ w2).drew).then hE)
   have HXD : Hid (∀ u, Ext w2.drew u → Ext w u) := fun u hE => HX.out.then (((Chg.refl _ w2).drew).then hE)
   refine wp_region_specs (fun i => ([.val (.pointer (some ⟨P, 3, none⟩)), .val (.slice (some ⟨b, o, none⟩) 2 cc), .val (.pointer (some ⟨b, o, none⟩)), .val (.agg #[.int .i64 k0, .string t0, .int .i64 m0, .slice a0 n0 c0]), .val (.int .i64 lf), .val (.string (T0)), .val (.string ((T0) ++ ⟨#[32]⟩)), .val (.string sg), .val (.string (((T0) ++ ⟨#[32]⟩) ++ sg)), .val (.string ((((T0) ++ ⟨#[32]⟩) ++ sg) ++ ⟨#[32]⟩)), .val (.pointer (some ⟨P, 3, none⟩)), .val (.slice (some ⟨b, o, none⟩) 2 cc), .val (.pointer (some ⟨b, o + 4, none⟩)), .val (.agg #[.int .i64 k1, .string t1, .int .i64 m1, .slice a1 n1 c1]), .val (.int .i64 lv), .val (.int .i64 (lv + 1)), .val (.string (T1)), .val (.string (((((T0) ++ ⟨#[32]⟩) ++ sg) ++ ⟨#[32]⟩) ++ (T1))), .val (.string (((((T0) ++ ⟨#[32]⟩) ++ sg) ++ ⟨#[32]⟩) ++ (T1)))] : List Comes).getD i (.val undef)) (frame := ?frz11) (fun x => ?hfz11) (by kernel_rfl) (by kernel_rfl) ?stz11 ?finz11
   case hfz11 =>
    simp only [specs.frameOf, specs.fill, specs.dstAt, List.size_toArray, List.length_cons, List.length_nil, List.getElem?_toArray, List.getElem?_cons_succ, List.getElem?_cons_zero, Option.getD_some, List.setIfInBounds_toArray, List.set_cons_succ, List.set_cons_zero]; exact rfl
   case stz11 =>
    refine AllFrom.cons (fun x u hE hd hr K hK => ?sz110) (AllFrom.cons (fun x u hE hd hr K hK => ?sz111) (AllFrom.cons (fun x u hE hd hr K hK => ?sz112) (AllFrom.cons (fun x u hE hd hr K hK => ?sz113) (AllFrom.cons (fun x u hE hd hr K hK => ?sz114) (AllFrom.cons (fun x u hE hd hr K hK => ?sz115) (AllFrom.cons (fun x u hE hd hr K hK => ?sz116) (AllFrom.cons (fun x u hE hd hr K hK => ?sz117) (AllFrom.cons (fun x u hE hd hr K hK => ?sz118) (AllFrom.cons (fun x u hE hd hr K hK => ?sz119) (AllFrom.cons (fun x u hE hd hr K hK => ?sz1110) (AllFrom.cons (fun x u hE hd hr K hK => ?sz1111) (AllFrom.cons (fun x u hE hd hr K hK => ?sz1112) (AllFrom.cons (fun x u hE hd hr K hK => ?sz1113) (AllFrom.cons (fun x u hE hd hr K hK => ?sz1114) (AllFrom.cons (fun x u hE hd hr K hK => ?sz1115) (AllFrom.cons (fun x u hE hd hr K hK => ?sz1116) (AllFrom.cons (fun x u hE hd hr K hK => ?sz1117) (AllFrom.cons (fun x u hE hd hr K hK => ?sz1118) AllFrom.nil))))))))))))))))))
    case sz110 =>
     clear hd hr; go_simp; exact hK.out _ _ _ rfl rfl (Chg.refl _ _)
    case sz111 =>
     have y305 : x 305 = .pointer (some ⟨P, 3, none⟩) := hd 0 (by decide) (by kernel_rfl); have hc := (HAD.out u hE).cell; clear hd hr; go_simp; exact hK.out _ _ _ (by simp only [y305]; rfl) rfl (Chg.refl _ _)
    case sz112 =>
     have y306 : x 306 = .slice (some ⟨b, o, none⟩) 2 cc := hd 1 (by decide) (by kernel_rfl); clear hd hr; go_simp; exact hK.out _ _ _ (by simp only [y306]; rfl) rfl (Chg.refl _ _)
    case sz113 =>
     have y307 : x 307 = .pointer (some ⟨b, o, none⟩) := hd 2 (by decide) (by kernel_rfl); obtain ⟨r0, r1, r2, r3⟩ := HQ0.out u (HXD.out u hE); clear hd hr; go_simp; exact hK.out _ _ _ (by simp only [y307]; rfl) rfl (Chg.refl _ _)
    case sz114 =>
     clear hd hr; go_simp; exact hK.out _ _ _ rfl rfl (Chg.refl _ _)
    case sz115 =>
     have y308 : x 308 = .agg #[.int .i64 k0, .string t0, .int .i64 m0, .slice a0 n0 c0] := hd 3 (by decide) (by kernel_rfl); have y309 : x 309 = .int .i64 lf := hd 4 (by decide) (by kernel_rfl); clear hd hr; go_simp; refine (HC0.out u (HXD.out u hE)).mono ?_
     rintro e w2 ⟨rfl, hE2⟩; exact hK.out _ _ _ (by simp only [y308, y309]; rfl) rfl hE2
    case sz116 =>
     have y310 : x 310 = .string (T0) := hd 5 (by decide) (by kernel_rfl); clear hd hr; go_simp
     try (rw [if_neg (by omega)])
     try go_simp
     exact hK.out _ _ _ (by simp only [y310]; rfl) rfl (Chg.refl _ _)
    case sz117 =>
     clear hd hr; go_simp; exact hK.out _ _ _ rfl rfl (Chg.refl _ _)
    case sz118 =>
     have y311 : x 311 = .string ((T0) ++ ⟨#[32]⟩) := hd 6 (by decide) (by kernel_rfl); have y312 : x 312 = .string sg := hd 7 (by decide) (by kernel_rfl); clear hd hr; go_simp
     try (rw [if_neg (by omega)])
     try go_simp
     exact hK.out _ _ _ (by simp only [y311, y312]; rfl) rfl (Chg.refl _ _)
    case sz119 =>
     have y313 : x 313 = .string (((T0) ++ ⟨#[32]⟩) ++ sg) := hd 8 (by decide) (by kernel_rfl); clear hd hr; go_simp
     try (rw [if_neg (by omega)])
     try go_simp
     exact hK.out _ _ _ (by simp only [y313]; rfl) rfl (Chg.refl _ _)
    case sz1110 =>
     clear hd hr; go_simp; exact hK.out _ _ _ rfl rfl (Chg.refl _ _)
    case sz1111 =>
     have y315 : x 315 = .pointer (some ⟨P, 3, none⟩) := hd 10 (by decide) (by kernel_rfl); have hc := (HAD.out u hE).cell; clear hd hr; go_simp; exact hK.out _ _ _ (by simp only [y315]; rfl) rfl (Chg.refl _ _)
    case sz1112 =>
     have y316 : x 316 = .slice (some ⟨b, o, none⟩) 2 cc := hd 11 (by decide) (by kernel_rfl); clear hd hr; go_simp; exact hK.out _ _ _ (by simp only [y316]; rfl) rfl (Chg.refl _ _)
    case sz1113 =>
     have y317 : x 317 = .pointer (some ⟨b, o + 4, none⟩) := hd 12 (by decide) (by kernel_rfl); obtain ⟨r0, r1, r2, r3⟩ := HQ1.out u (HXD.out u hE); clear hd hr; go_simp; exact hK.out _ _ _ (by simp only [y317]; rfl) rfl (Chg.refl _ _)
    case sz1114 =>
     clear hd hr; go_simp; exact hK.out _ _ _ rfl rfl (Chg.refl _ _)
    case sz1115 =>
     have y319 : x 319 = .int .i64 lv := hd 14 (by decide) (by kernel_rfl); clear hd hr; go_simp
     try (rw [if_neg (by omega)])
     try go_simp
     exact hK.out _ _ _ (by simp only [y319]; rfl) rfl (Chg.refl _ _)
    case sz1116 =>
     have y318 : x 318 = .agg #[.int .i64 k1, .string t1, .int .i64 m1, .slice a1 n1 c1] := hd 13 (by decide) (by kernel_rfl); have y320 : x 320 = .int .i64 (lv + 1) := hd 15 (by decide) (by kernel_rfl); clear hd hr; go_simp; refine (HC1.out u (HXD.out u hE)).mono ?_
     rintro e w2 ⟨rfl, hE2⟩; exact hK.out _ _ _ (by simp only [y318, y320]; rfl) rfl hE2
    case sz1117 =>
     have y314 : x 314 = .string ((((T0) ++ ⟨#[32]⟩) ++ sg) ++ ⟨#[32]⟩) := hd 9 (by decide) (by kernel_rfl); have y321 : x 321 = .string (T1) := hd 16 (by decide) (by kernel_rfl); clear hd hr; go_simp
     try (rw [if_neg (by omega)])
     try go_simp
     exact hK.out _ _ _ (by simp only [y314, y321]; rfl) rfl (Chg.refl _ _)
    case sz1118 =>
     have y322 : x 322 = .string (((((T0) ++ ⟨#[32]⟩) ++ sg) ++ ⟨#[32]⟩) ++ (T1)) := hd 17 (by decide) (by kernel_rfl); clear hd hr; go_simp; exact hK.out _ _ _ (by simp only [y322]; rfl) rfl (Chg.refl _ _)
   case finz11 =>
    intro x u hE hs; have y2 : x 2 = .string (((((T0) ++ ⟨#[32]⟩) ++ sg) ++ ⟨#[32]⟩) ++ (T1)) := hs 18 (by decide); go_wp2_with fail
    go_ret
    exact ⟨by first | rfl | (rw [y2]; rfl), HXD.out u hE⟩
end rpr
end Go.Proofs.YtpcihajmcejliabGreatDoor
namespace Go.Proofs.YtpcihajmcejliabGreatDoor
open Go.RowKit
def modS : List Nd → ByteArray → ByteArray
 | [], s => s
 | y :: r, s => modS r ((s ++ ⟨#[32]⟩) ++ jB (showW y))
namespace rpr
open synw synr prt
set_option maxRecDepth 100000 in
set_option maxHeartbeats 4000000 in
theorem sh_mod (l : List Nd) {t : ByteArray} (ht : t.size ≤ 100) (hz : ∀ y ∈ l, ShC y) (hl : l.length ≤ 500) (hb : ∀ y ∈ l, (jB (showW y)).size ≤ 160000) (v : Value) (w : World) (hx : NgAt w (.mk 1 t 0 l) v) :
  Calls Tryz.prog 97 #[v] w fun e w' => e = .returned (.string (modS l ((⟨#[109, 111, 100, 117, 108, 101, 32]⟩ ++ t) ++ ⟨#[32, 59]⟩))) ∧ Ext w w' := by
 rw [ngAt_mk] at hx; obtain ⟨a, cc, rfl, hx1, hx2, hx3, hx4⟩ := hx; obtain ⟨N, hN⟩ : ∃ N, l.length = N := ⟨_, rfl⟩; have HNN := Z_ hN; have HROW : Hid (∀ u, Ext w u → AllIn 4 NgIn u a l) := fun u hE => hx4.keeps (ng_keep2 hE) fun b o y => ngIn_keeps (ng_keep2 hE) b o y
 have hlN : N ≤ 500 := by omega
 have HZ := Z_ hz; have HBD := Z_ hb; obtain ⟨R, hR⟩ : ∃ R, modS l ((⟨#[109, 111, 100, 117, 108, 101, 32]⟩ ++ t) ++ ⟨#[32, 59]⟩) = R := ⟨_, rfl⟩; rw [hR]; have HR := Z_ hR; clear hz hb hR; rw [hN]; have hX1 := (Chg.refl (fun _ => False) w).alloc (.cells #[.int .i64 1, .string t, .int .i64 0, .slice a N cc] 66); have HA := Z_ (Blk.made w #[.int .i64 1, .string t, .int .i64 0, .slice a N cc] 66); have HX := Z_ hX1; obtain ⟨P, hP⟩ : ∃ P, w.heap.size = P := ⟨_, rfl⟩; rw [hP] at HA; clear hx1 hx2 hx3 hx4 hX1 hN; go_enter Tryz.func97, Tryz.ntmps97
 go_upto_region 1 with (fail)
 try rw [hP]
 generalize w.alloc (.cells #[.int .i64 1, .string t, .int .i64 0, .slice a N cc] 66) = w1 at *; clear hP; have q1 := HA.out.cell; go_wp2_with fail
 clear q1
 have hs7 : (⟨#[109, 111, 100, 117, 108, 101, 32]⟩ ++ t ++ ⟨#[32, 59]⟩ : ByteArray).size ≤ 200 := by
  simp only [ByteArray.size_append]; have h8 : (⟨#[109, 111, 100, 117, 108, 101, 32]⟩ : ByteArray).size = 7 := rfl; have h7 : (⟨#[32, 59]⟩ : ByteArray).size = 2 := rfl; omega
 go_loopw [5, 6, 7] (fun sv i _ wr => ∃ (q : Nat) (s : ByteArray), q ≤ N ∧ i = .int .i64 q ∧ sv = .string s ∧ s.size ≤ 200 + q * 160003 ∧ Hid (modS (l.drop q) s = R) ∧ Hid (Ext w wr) ∧ Hid (Blk wr P #[.int .i64 1, .string t, .int .i64 0, .slice a N cc] 66)) (fun _ i _ _ => N - (intOf i).toNat)
 case atStart => exact ⟨0, _, Nat.zero_le _, rfl, rfl, by omega, HR, HX, HA⟩
 clear HX HA
 case round =>
  obtain ⟨q, s, hq, rfl, rfl, hss, hr, HE, HK⟩ := hrel; have hc := HK.out.cell; by_cases hlt : q < N
  ·have hql : q < l.length := by rw [HNN.out]; exact hlt
   have hqi : (q : Int) < (N : Int) := by omega
   obtain ⟨b, o, rfl, hb, u, hu, hus, hcl⟩ := HROW.out wr HE.out q hql; obtain ⟨k1, t1, n1, a1, l1, c1, rfl⟩ := ng_form hu; have q0 : wr.cell? ⟨b, o + q * 4, none⟩ = some (.int .i64 k1) := (hcl 0 (by decide)).trans rfl; have q1 : wr.cell? ⟨b, o + q * 4 + 1, none⟩ = some (.string t1) := (hcl 1 (by decide)).trans rfl; have q2 : wr.cell? ⟨b, o + q * 4 + 2, none⟩ = some (.int .i64 n1) := (hcl 2 (by decide)).trans rfl; have q3 : wr.cell? ⟨b, o + q * 4 + 3, none⟩ = some (.slice a1 l1 c1) := (hcl 3 (by decide)).trans rfl; have HC := Z_ (HZ.out l[q] (List.getElem_mem hql) _ wr hu); have hr2 := hr.out; rw [List.drop_eq_getElem_cons hql, modS] at hr2; have hTs := HBD.out l[q] (List.getElem_mem hql); generalize jB (showW l[q]) = T at hr2 HC hTs; have hss2 : s.size ≤ 80001700 := by omega
   have hss3 : s.size + 1 ≤ 80001703 := by omega
   have hss4 : s.size + 1 + T.size ≤ 80161703 := by omega
   have HR2 := Z_ hr2; clear hr hr2 hcl hu hus; go_wp2_with fail
   refine HC.out.mono ?_
   rintro e w5 ⟨rfl, hE5⟩; have HE5 := Z_ (HE.out.ext hE5); have HK5 := Z_ (HK.out.ext hE5); clear hE5 HC HE HK q0 q1 q2 q3 hc; go_wp2_with fail
   go_roundw
   case rel => exact ⟨q + 1, _, by omega, by go_num, rfl, by simp only [ByteArray.size_append]; have h7 : (⟨#[32]⟩ : ByteArray).size = 1 := rfl; omega, HR2, HE5, HK5⟩
   case measure => simp [intOf]; omega
  ·obtain rfl : q = N := by omega
   have hT : s = R := by have := hr.out; rw [List.drop_of_length_le (by rw [HNN.out]; exact Nat.le_refl _), modS] at this; exact this
   subst hT; clear hr; go_wp2_with fail
   go_ret
   exact ⟨rfl, HE.out⟩
end rpr
end Go.Proofs.YtpcihajmcejliabGreatDoor
namespace Go.Proofs.YtpcihajmcejliabGreatDoor
open Go.RowKit
namespace rpr
open synw synr prt
theorem sw_ex {x : Nd} (h : KdE x.kd) : showW x = (exP 0 x).2 := by
 unfold KdE at h; unfold showW; rw [if_neg (by omega), if_neg (by omega), if_neg (by omega), if_neg (by omega), if_neg (by omega), if_neg (by omega), if_neg (by omega)]
theorem sw_st {x : Nd} (h : KdS x.kd) : showW x = (stP x).2 := by
 unfold KdS at h; unfold showW; rw [if_neg (by omega), if_neg (by omega), if_neg (by omega), if_neg (by omega), if_neg (by omega), if_neg (by omega), if_pos (by omega)]
theorem sw_bl {x : Nd} (h : x.kd = 6) : showW x = (blP x).2 := by
 unfold showW; rw [if_neg (by omega), if_neg (by omega), if_neg (by omega), if_neg (by omega), if_neg (by omega), if_pos h]
theorem sw_par {x : Nd} (h : x.kd = 5) : showW x = [labW (decide (x.nm = 1)), x.tx] := by
 unfold showW; rw [if_neg (by omega), if_neg (by omega), if_neg (by omega), if_neg (by omega), if_pos h]
theorem sw_decl {x : Nd} (h : x.kd = 2 ∨ x.kd = 3 ∨ x.kd = 4) : showW x = declW x := by
 unfold showW declW; rcases h with h | h | h
 ·rw [if_neg (by omega), if_pos h, if_pos h]
 ·rw [if_neg (by omega), if_neg (by omega), if_pos h, if_neg (by omega), if_pos h]
 ·rw [if_neg (by omega), if_neg (by omega), if_neg (by omega), if_pos h, if_neg (by omega), if_neg (by omega)]
theorem sw_mod {x : Nd} (h : x.kd = 1) : showW x = (modP x).2 := by
 unfold showW; rw [if_pos h]
theorem sw_ne (x : Nd) (hX : IsNd x) : showW x ≠ [] := by
 have hr := rng_of_is x hX; by_cases h1 : x.kd = 1
 ·rw [sw_mod h1, mod_words x hr ((mod_form x hr).2 ⟨hX, h1⟩)]; simp
 by_cases h2 : x.kd = 2
 ·rw [sw_decl (.inl h2)]; unfold declW; rw [if_pos h2]; simp
 by_cases h34 : x.kd = 3 ∨ x.kd = 4
 ·obtain ⟨w, ws, e, -⟩ := decl_head x hr hX h34
  rw [sw_decl (.inr h34), e]; simp
 by_cases h5 : x.kd = 5
 ·rw [sw_par h5]; simp
 by_cases h6 : x.kd = 6
 ·obtain ⟨ws, e⟩ := blk_head x hr hX h6
  rw [sw_bl h6, e]; simp
 by_cases hs : KdS x.kd
 ·obtain ⟨w, ws, e, -⟩ := st_head x hr hX hs
  rw [sw_st hs, e]; simp
 have hke : KdE x.kd := by
  unfold KdS at hs; obtain ⟨k, t, m, l⟩ := x; have hf := hX.form; unfold Nd.kd at *; unfold KdE; cases hf <;> simp_all
 obtain ⟨w, ws, e, -⟩ := ex_head x 0 hr hX hke; rw [sw_ex hke, e]; simp
theorem flat_ne {l : List Nd} (hl : l ≠ []) (h : ∀ y ∈ l, showW y ≠ []) : l.flatMap showW ≠ [] := by
 cases l with
 | nil => exact absurd rfl hl
 | cons y r =>
  rw [List.flatMap_cons]; exact fun e => h y (by simp) (List.append_eq_nil_iff.1 e).1
theorem lst_sp : ∀ (l : List Nd) (i : Nat) (s : ByteArray), (∀ y ∈ l, showW y ≠ []) → 0 < i → lstS ⟨#[32]⟩ i l s = if l = [] then s else s ++ (bl1 ++ jB (l.flatMap showW)) := by
 intro l; induction l with
 | nil => intro i s _ _; rfl
 | cons y r ih =>
  intro i s h hi; have hy := h y (by simp); rw [lstS, if_pos hi, ih (i + 1) _ (fun z hz => h z (by simp [hz])) (by omega), if_neg (show ¬ y :: r = [] by simp), List.flatMap_cons]; by_cases hr : r = []
  ·subst hr
   rw [if_pos rfl, List.flatMap_nil, List.append_nil]; exact ba_ext (by simp [bl1])
  ·rw [if_neg hr, jB_app hy (flat_ne hr fun z hz => h z (by simp [hz]))]
   exact ba_ext (by simp [bl1])
theorem lst_sp0 {l : List Nd} (hl : l ≠ []) (h : ∀ y ∈ l, showW y ≠ []) : lstS ⟨#[32]⟩ 0 l ⟨#[]⟩ = jB (l.flatMap showW) := by
 cases l with
 | nil => exact absurd rfl hl
 | cons y r =>
  have hy := h y (by simp); rw [lstS, if_neg (by decide), lst_sp r 1 _ (fun z hz => h z (by simp [hz])) (by decide), List.flatMap_cons]; by_cases hr : r = []
  ·subst hr
   rw [if_pos rfl, List.flatMap_nil, List.append_nil]; exact ba_ext (by simp)
  ·rw [if_neg hr, jB_app hy (flat_ne hr fun z hz => h z (by simp [hz]))]
   exact ba_ext (by simp)
def cmW (l : List Nd) : List ByteArray := l.flatMap fun y => sComma :: showW y
theorem lst_cm : ∀ (l : List Nd) (i : Nat) (s : ByteArray), (∀ y ∈ l, showW y ≠ []) → 0 < i → lstS ⟨#[32, 44, 32]⟩ i l s = if l = [] then s else s ++ (bl1 ++ jB (cmW l)) := by
 intro l; induction l with
 | nil => intro i s _ _; rfl
 | cons y r ih =>
  intro i s h hi; have hy := h y (by simp); have e : cmW (y :: r) = sComma :: (showW y ++ cmW r) := rfl; rw [lstS, if_pos hi, ih (i + 1) _ (fun z hz => h z (by simp [hz])) (by omega), if_neg (show ¬ y :: r = [] by simp), e, jB_cons (by simp [hy])]; by_cases hr : r = []
  ·subst hr
   rw [if_pos rfl, show cmW [] = [] from rfl, List.append_nil]; exact ba_ext (by simp [bl1, sComma])
  ·have hne : cmW r ≠ [] := by
    cases r with
    | nil => exact absurd rfl hr
    | cons z r => exact fun e => by cases e
   rw [if_neg hr, jB_app hy hne]; exact ba_ext (by simp [bl1, sComma])
theorem lst_cm0 {y : Nd} {r : List Nd} (h : ∀ z ∈ y :: r, showW z ≠ []) : lstS ⟨#[32, 44, 32]⟩ 0 (y :: r) ⟨#[]⟩ = jB (showW y ++ cmW r) := by
 have hy := h y (by simp); rw [lstS, if_neg (by decide), lst_cm r 1 _ (fun z hz => h z (by simp [hz])) (by decide)]; by_cases hr : r = []
 ·subst hr
  rw [if_pos rfl, show cmW [] = [] from rfl, List.append_nil]; exact ba_ext (by simp)
 ·have hne : cmW r ≠ [] := by
   cases r with
   | nil => exact absurd rfl hr
   | cons z r => exact fun e => by cases e
  rw [if_neg hr, jB_app hy hne]; exact ba_ext (by simp)
theorem mod_sp : ∀ (l : List Nd) (s : ByteArray), (∀ y ∈ l, showW y ≠ []) → modS l s = if l = [] then s else s ++ (bl1 ++ jB (l.flatMap showW)) := by
 intro l; induction l with
 | nil => intro s _; rfl
 | cons y r ih =>
  intro s h; have hy := h y (by simp); rw [modS, ih _ (fun z hz => h z (by simp [hz])), if_neg (show ¬ y :: r = [] by simp), List.flatMap_cons]; by_cases hr : r = []
  ·subst hr
   rw [if_pos rfl, List.flatMap_nil, List.append_nil]; exact ba_ext (by simp [bl1])
  ·rw [if_neg hr, jB_app hy (flat_ne hr fun z hz => h z (by simp [hz]))]
   exact ba_ext (by simp [bl1])
theorem sts_flat : ∀ (l : List Nd), (∀ y ∈ l, KdS y.kd) → stsW l = l.flatMap showW := by
 intro l; induction l with
 | nil => intro _; rfl
 | cons y r ih => intro h; rw [stsW, List.flatMap_cons, ih fun z hz => h z (by simp [hz]), sw_st (h y (by simp))]
theorem decls_flat : ∀ (l : List Nd), (∀ y ∈ l, y.kd = 2 ∨ y.kd = 3 ∨ y.kd = 4) → declsW l = l.flatMap showW := by
 intro l; induction l with
 | nil => intro _; rfl
 | cons y r ih => intro h; rw [declsW, List.flatMap_cons, ih fun z hz => h z (by simp [hz]), sw_decl (h y (by simp))]
theorem com_flat : ∀ (l : List Nd), (∀ y ∈ l, KdE y.kd ∧ (exP 0 y).1 = true) → (comP (l.map (exP 0)) false).2 = cmW l := by
 intro l; induction l with
 | nil => intro _; rfl
 | cons y r ih =>
  intro h; have hy := h y (by simp); rw [List.map_cons, comP]; simp only [Bool.false_eq_true, if_false]; rw [say_then2, then_snd hy.2, ih fun z hz => h z (by simp [hz]), ← sw_ex hy.1]; rfl
theorem pars_flat : ∀ (l : List Nd) (i : Nat), 0 < i → (∀ y ∈ l, y.kd = 5) → parsW l i = cmW l := by
 intro l; induction l with
 | nil => intro i _ _; rfl
 | cons y r ih =>
  intro i hi h; rw [parsW, if_pos hi, ih (i + 1) (by omega) fun z hz => h z (by simp [hz])]; have e : cmW (y :: r) = sComma :: (showW y ++ cmW r) := rfl; rw [e, sw_par (h y (by simp))]; rfl
theorem rnd_com {l : List Nd} (h : ∀ y ∈ l, KdE y.kd ∧ (exP 0 y).1 = true) (hn : ∀ y ∈ l, showW y ≠ []) : rndS l = jB (sOpen :: ((comP (l.map (exP 0)) true).2 ++ [sClose])) := by
 unfold rndS; cases l with
 | nil => rfl
 | cons y r =>
  have hy := h y (by simp); rw [if_neg (by simp), lst_cm0 hn, List.map_cons, comP]; simp only [if_true]; rw [say_then2, then_snd hy.2, com_flat r fun z hz => h z (by simp [hz]), ← sw_ex hy.1, List.nil_append]; have hne : showW y ++ cmW r ≠ [] := by simp [hn y (by simp)]
  rw [jB_cons (by simp), jB_app hne (by simp), jB_one]; exact ba_ext (by simp [bl1, sOpen, sClose])
theorem rnd_pars {l : List Nd} (h : ∀ y ∈ l, y.kd = 5) (hn : ∀ y ∈ l, showW y ≠ []) : rndS l = jB (sOpen :: (parsW l 0 ++ [sClose])) := by
 unfold rndS; cases l with
 | nil => rfl
 | cons y r =>
  rw [if_neg (by simp), lst_cm0 hn, parsW, if_neg (by decide), pars_flat r (0 + 1) (by decide) fun z hz => h z (by simp [hz]), List.nil_append]; have e : labW (decide (y.nm = 1)) :: y.tx :: cmW r = showW y ++ cmW r := by rw [sw_par (h y (by simp))]; rfl
  rw [e]; have hne : showW y ++ cmW r ≠ [] := by simp [hn y (by simp)]
  rw [jB_cons (by simp), jB_app hne (by simp), jB_one]; exact ba_ext (by simp [bl1, sOpen, sClose])
end rpr
end Go.Proofs.YtpcihajmcejliabGreatDoor
