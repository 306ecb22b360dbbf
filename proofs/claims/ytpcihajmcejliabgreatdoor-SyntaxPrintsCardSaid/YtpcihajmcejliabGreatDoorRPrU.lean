/- The reference's Show, of what needs no order drawn. -/
import Derived.Test.YtpcihajmcejliabGreatDoorPrtE
import Derived.Test.YtpcihajmcejliabGreatDoorRPrT
namespace Go.Proofs.YtpcihajmcejliabGreatDoor
open Go.RowKit
namespace rpr
open synw synr prt
def pubS (m : Int) : ByteArray := if 2 ≤ m.tmod 4 then ⟨#[112, 117, 98, 32]⟩ else ⟨#[]⟩
theorem kid_ok {w : World} {a : Option Addr} {l : List Nd} (h : AllIn 4 NgIn w a l) (j : Nat) (hj : j < l.length) : ∃ b o k1 t1 m1 a1 n1 c1, a = some ⟨b, o, none⟩ ∧ NgAt w l[j] (.agg #[.int .i64 k1, .string t1, .int .i64 m1, .slice a1 n1 c1]) ∧
  ∀ u, Ext w u → u.cell? ⟨b, o + j * 4, none⟩ = some (.int .i64 k1) ∧ u.cell? ⟨b, o + j * 4 + 1, none⟩ = some (.string t1) ∧ u.cell? ⟨b, o + j * 4 + 2, none⟩ = some (.int .i64 m1) ∧ u.cell? ⟨b, o + j * 4 + 3, none⟩ = some (.slice a1 n1 c1) := by
 obtain ⟨b, o, rfl, hb, u, hu, hs, hc⟩ := h j hj; have hu2 := hu; obtain ⟨k1, t1, m1, a1, n1, c1, rfl⟩ := ng_form hu2; exact ⟨b, o, k1, t1, m1, a1, n1, c1, rfl, hu, fun w' hE => ⟨(hE.cell (p := ⟨b, o + j * 4, none⟩) hb id).trans ((hc 0 (by decide)).trans rfl), (hE.cell (p := ⟨b, o + j * 4 + 1, none⟩) hb id).trans ((hc 1 (by decide)).trans rfl), (hE.cell (p := ⟨b, o + j * 4 + 2, none⟩) hb id).trans ((hc 2 (by decide)).trans rfl), (hE.cell (p := ⟨b, o + j * 4 + 3, none⟩) hb id).trans ((hc 3 (by decide)).trans rfl)⟩⟩
set_option maxRecDepth 100000 in
set_option maxHeartbeats 4000000 in
theorem sh_import (t : ByteArray) (ht : t.size ≤ 100) (v : Value) (w : World) (hx : NgAt w (.mk 2 t 0 []) v) :
  Calls Tryz.prog 97 #[v] w fun e w' => e = .returned (.string ((⟨#[105, 109, 112, 111, 114, 116, 32]⟩ ++ t) ++ ⟨#[32, 59]⟩)) ∧ Ext w w' := by
 rw [ngAt_mk] at hx; obtain ⟨a, cc, rfl, hx1, hx2, hx3, hx4⟩ := hx; simp only [List.length_nil]; have hX1 := (Chg.refl (fun _ => False) w).alloc (.cells #[.int .i64 2, .string t, .int .i64 0, .slice a 0 cc] 66); have HA := Z_ (Blk.made w #[.int .i64 2, .string t, .int .i64 0, .slice a 0 cc] 66); have HX := Z_ hX1; obtain ⟨P, hP⟩ : ∃ P, w.heap.size = P := ⟨_, rfl⟩; rw [hP] at HA; clear hx1 hx2 hx3 hx4 hX1; go_enter Tryz.func97, Tryz.ntmps97
 go_upto_region 1 with (fail)
 try rw [hP]
 generalize w.alloc (.cells #[.int .i64 2, .string t, .int .i64 0, .slice a 0 cc] 66) = w1 at *; clear hP; have q1 := HA.out.cell; go_wp2_with fail
 go_ret
 exact ⟨rfl, HX.out⟩
set_option maxRecDepth 100000 in
set_option maxHeartbeats 4000000 in
theorem sh_do {x : Nd} (hz : ShC x) (hb : (jB (showW x)).size ≤ 160000) (v : Value) (w : World) (hx : NgAt w (.mk 9 noText 0 [x]) v) :
  Calls Tryz.prog 97 #[v] w fun e w' => e = .returned (.string ((⟨#[100, 111, 32]⟩ ++ jB (showW x)) ++ ⟨#[32, 59]⟩)) ∧ Ext w w' := by
 rw [ngAt_mk] at hx; obtain ⟨a, cc, rfl, hx1, hx2, hx3, hx4⟩ := hx; simp only [List.length_cons, List.length_nil, Nat.zero_add]; obtain ⟨b, o, k0, t0, m0, a0, n0, c0, rfl, hn0, hq0⟩ := kid_ok hx4 0 (by simp)
 have HQ0 : Hid (∀ u, Ext w u → u.cell? ⟨b, o, none⟩ = some (.int .i64 k0) ∧ u.cell? ⟨b, o + 1, none⟩ = some (.string t0) ∧ u.cell? ⟨b, o + 2, none⟩ = some (.int .i64 m0) ∧ u.cell? ⟨b, o + 3, none⟩ = some (.slice a0 n0 c0)) := by
  intro u hE; have h := hq0 u hE; simpa using h
 have HN0 := Z_ hn0; clear hn0 hq0; have hX1 := (Chg.refl (fun _ => False) w).alloc (.cells #[.int .i64 9, .string noText, .int .i64 0, .slice (some ⟨b, o, none⟩) 1 cc] 66); have HA := Z_ (Blk.made w #[.int .i64 9, .string noText, .int .i64 0, .slice (some ⟨b, o, none⟩) 1 cc] 66); have HX := Z_ hX1; obtain ⟨P, hP⟩ : ∃ P, w.heap.size = P := ⟨_, rfl⟩; rw [hP] at HA; have HC := Z_ (fun (u : World) (hE : Ext w u) => hz _ u (ng_ext2 HN0.out hE)); generalize jB (showW x) = T at *; clear hz HN0; clear hx1 hx2 hx3 hx4 hX1; go_enter Tryz.func97, Tryz.ntmps97
 go_upto_region 1 with (fail)
 try rw [hP]
 generalize w.alloc (.cells #[.int .i64 9, .string noText, .int .i64 0, .slice (some ⟨b, o, none⟩) 1 cc] 66) = w1 at *; clear hP; have q1 := HA.out.cell; obtain ⟨r0, r1, r2, r3⟩ := HQ0.out w1 HX.out; go_wp2_with fail
 refine (HC.out _ HX.out).mono ?_
 rintro e w2 ⟨rfl, hE2⟩; clear q1 r0 r1 r2 r3; go_wp2_with fail
 go_ret
 exact ⟨rfl, HX.out.ext hE2⟩
set_option maxRecDepth 100000 in
set_option maxHeartbeats 4000000 in
theorem sh_ret {x : Nd} (hz : ShC x) (hb : (jB (showW x)).size ≤ 160000) (v : Value) (w : World) (hx : NgAt w (.mk 14 noText 0 [x]) v) :
  Calls Tryz.prog 97 #[v] w fun e w' => e = .returned (.string ((⟨#[114, 101, 116, 117, 114, 110, 32]⟩ ++ jB (showW x)) ++ ⟨#[32, 59]⟩)) ∧ Ext w w' := by
 rw [ngAt_mk] at hx; obtain ⟨a, cc, rfl, hx1, hx2, hx3, hx4⟩ := hx; simp only [List.length_cons, List.length_nil, Nat.zero_add]; obtain ⟨b, o, k0, t0, m0, a0, n0, c0, rfl, hn0, hq0⟩ := kid_ok hx4 0 (by simp)
 have HQ0 : Hid (∀ u, Ext w u → u.cell? ⟨b, o, none⟩ = some (.int .i64 k0) ∧ u.cell? ⟨b, o + 1, none⟩ = some (.string t0) ∧ u.cell? ⟨b, o + 2, none⟩ = some (.int .i64 m0) ∧ u.cell? ⟨b, o + 3, none⟩ = some (.slice a0 n0 c0)) := by
  intro u hE; have h := hq0 u hE; simpa using h
 have HN0 := Z_ hn0; clear hn0 hq0; have hX1 := (Chg.refl (fun _ => False) w).alloc (.cells #[.int .i64 14, .string noText, .int .i64 0, .slice (some ⟨b, o, none⟩) 1 cc] 66); have HA := Z_ (Blk.made w #[.int .i64 14, .string noText, .int .i64 0, .slice (some ⟨b, o, none⟩) 1 cc] 66); have HX := Z_ hX1; obtain ⟨P, hP⟩ : ∃ P, w.heap.size = P := ⟨_, rfl⟩; rw [hP] at HA; have HC := Z_ (fun (u : World) (hE : Ext w u) => hz _ u (ng_ext2 HN0.out hE)); generalize jB (showW x) = T at *; clear hz HN0; clear hx1 hx2 hx3 hx4 hX1; go_enter Tryz.func97, Tryz.ntmps97
 go_upto_region 1 with (fail)
 try rw [hP]
 generalize w.alloc (.cells #[.int .i64 14, .string noText, .int .i64 0, .slice (some ⟨b, o, none⟩) 1 cc] 66) = w1 at *; clear hP; have q1 := HA.out.cell; obtain ⟨r0, r1, r2, r3⟩ := HQ0.out w1 HX.out; go_wp2_with fail
 refine (HC.out _ HX.out).mono ?_
 rintro e w2 ⟨rfl, hE2⟩; clear q1 r0 r1 r2 r3; go_wp2_with fail
 go_ret
 exact ⟨rfl, HX.out.ext hE2⟩
set_option maxRecDepth 100000 in
set_option maxHeartbeats 4000000 in
theorem sh_neg {x : Nd} (hX : IsNd x) (hke : KdE x.kd) (hz : ShC x) (hb0 : (jB (exP 0 x).2).size ≤ 160000) (hb : (jB (exP 3 x).2).size ≤ 160000) (v : Value) (w : World) (hx : NgAt w (.mk 20 noText 0 [x]) v) :
  Calls Tryz.prog 97 #[v] w fun e w' => e = .returned (.string (⟨#[45, 32]⟩ ++ jB (exP 3 x).2)) ∧ Ext w w' := by
 rw [ngAt_mk] at hx; obtain ⟨a, cc, rfl, hx1, hx2, hx3, hx4⟩ := hx; simp only [List.length_cons, List.length_nil, Nat.zero_add]; obtain ⟨b, o, k0, t0, m0, a0, n0, c0, rfl, hn0, hq0⟩ := kid_ok hx4 0 (by simp)
 have HQ0 : Hid (∀ u, Ext w u → u.cell? ⟨b, o, none⟩ = some (.int .i64 k0) ∧ u.cell? ⟨b, o + 1, none⟩ = some (.string t0) ∧ u.cell? ⟨b, o + 2, none⟩ = some (.int .i64 m0) ∧ u.cell? ⟨b, o + 3, none⟩ = some (.slice a0 n0 c0)) := by
  intro u hE; have h := hq0 u hE; simpa using h
 have HN0 := Z_ hn0; clear hn0 hq0; have hX1 := (Chg.refl (fun _ => False) w).alloc (.cells #[.int .i64 20, .string noText, .int .i64 0, .slice (some ⟨b, o, none⟩) 1 cc] 66); have HA := Z_ (Blk.made w #[.int .i64 20, .string noText, .int .i64 0, .slice (some ⟨b, o, none⟩) 1 cc] 66); have HX := Z_ hX1; obtain ⟨P, hP⟩ : ∃ P, w.heap.size = P := ⟨_, rfl⟩; rw [hP] at HA; have HC := Z_ (fun (u : World) (hE : Ext w u) => at_any x hX hke hz 3 _ u hb0 (ng_ext2 HN0.out hE)); generalize jB (exP 3 x).2 = T at *; clear hz HN0 hX hke hb0; clear hx1 hx2 hx3 hx4 hX1; go_enter Tryz.func97, Tryz.ntmps97
 go_upto_region 1 with (fail)
 try rw [hP]
 generalize w.alloc (.cells #[.int .i64 20, .string noText, .int .i64 0, .slice (some ⟨b, o, none⟩) 1 cc] 66) = w1 at *; clear hP; have q1 := HA.out.cell; obtain ⟨r0, r1, r2, r3⟩ := HQ0.out w1 HX.out; go_wp2_with fail
 refine (HC.out _ HX.out).mono ?_
 rintro e w2 ⟨rfl, hE2⟩; clear q1 r0 r1 r2 r3; go_wp2_with fail
 go_ret
 exact ⟨rfl, HX.out.ext hE2⟩
set_option maxRecDepth 100000 in
set_option maxHeartbeats 4000000 in
theorem sh_not {x : Nd} (hX : IsNd x) (hke : KdE x.kd) (hz : ShC x) (hb0 : (jB (exP 0 x).2).size ≤ 160000) (hb : (jB (exP 3 x).2).size ≤ 160000) (v : Value) (w : World) (hx : NgAt w (.mk 21 noText 0 [x]) v) :
  Calls Tryz.prog 97 #[v] w fun e w' => e = .returned (.string (⟨#[33, 32]⟩ ++ jB (exP 3 x).2)) ∧ Ext w w' := by
 rw [ngAt_mk] at hx; obtain ⟨a, cc, rfl, hx1, hx2, hx3, hx4⟩ := hx; simp only [List.length_cons, List.length_nil, Nat.zero_add]; obtain ⟨b, o, k0, t0, m0, a0, n0, c0, rfl, hn0, hq0⟩ := kid_ok hx4 0 (by simp)
 have HQ0 : Hid (∀ u, Ext w u → u.cell? ⟨b, o, none⟩ = some (.int .i64 k0) ∧ u.cell? ⟨b, o + 1, none⟩ = some (.string t0) ∧ u.cell? ⟨b, o + 2, none⟩ = some (.int .i64 m0) ∧ u.cell? ⟨b, o + 3, none⟩ = some (.slice a0 n0 c0)) := by
  intro u hE; have h := hq0 u hE; simpa using h
 have HN0 := Z_ hn0; clear hn0 hq0; have hX1 := (Chg.refl (fun _ => False) w).alloc (.cells #[.int .i64 21, .string noText, .int .i64 0, .slice (some ⟨b, o, none⟩) 1 cc] 66); have HA := Z_ (Blk.made w #[.int .i64 21, .string noText, .int .i64 0, .slice (some ⟨b, o, none⟩) 1 cc] 66); have HX := Z_ hX1; obtain ⟨P, hP⟩ : ∃ P, w.heap.size = P := ⟨_, rfl⟩; rw [hP] at HA; have HC := Z_ (fun (u : World) (hE : Ext w u) => at_any x hX hke hz 3 _ u hb0 (ng_ext2 HN0.out hE)); generalize jB (exP 3 x).2 = T at *; clear hz HN0 hX hke hb0; clear hx1 hx2 hx3 hx4 hX1; go_enter Tryz.func97, Tryz.ntmps97
 go_upto_region 1 with (fail)
 try rw [hP]
 generalize w.alloc (.cells #[.int .i64 21, .string noText, .int .i64 0, .slice (some ⟨b, o, none⟩) 1 cc] 66) = w1 at *; clear hP; have q1 := HA.out.cell; obtain ⟨r0, r1, r2, r3⟩ := HQ0.out w1 HX.out; go_wp2_with fail
 refine (HC.out _ HX.out).mono ?_
 rintro e w2 ⟨rfl, hE2⟩; clear q1 r0 r1 r2 r3; go_wp2_with fail
 go_ret
 exact ⟨rfl, HX.out.ext hE2⟩
set_option maxRecDepth 100000 in
set_option maxHeartbeats 4000000 in
theorem sh_num {m : Int} (h0 : 0 ≤ m) (h1 : m < 9223372036854775808) (v : Value) (w : World) (hx : NgAt w (.mk 15 noText m []) v) :
  Calls Tryz.prog 97 #[v] w fun e w' => e = .returned (.string (digW m)) ∧ Ext w w' := by
 rw [ngAt_mk] at hx; obtain ⟨a, cc, rfl, hx1, hx2, hx3, hx4⟩ := hx; simp only [List.length_nil]; have hX1 := (Chg.refl (fun _ => False) w).alloc (.cells #[.int .i64 15, .string noText, .int .i64 m, .slice a 0 cc] 66); have HA := Z_ (Blk.made w #[.int .i64 15, .string noText, .int .i64 m, .slice a 0 cc] 66); have HX := Z_ hX1; obtain ⟨P, hP⟩ : ∃ P, w.heap.size = P := ⟨_, rfl⟩; rw [hP] at HA; have HC := Z_ (fun (u : World) => digits_any m u h0 (by omega)); clear h0 h1; clear hx1 hx2 hx3 hx4 hX1; go_enter Tryz.func97, Tryz.ntmps97
 go_upto_region 1 with (fail)
 try rw [hP]
 generalize w.alloc (.cells #[.int .i64 15, .string noText, .int .i64 m, .slice a 0 cc] 66) = w1 at *; clear hP; have q1 := HA.out.cell; obtain ⟨pS, hpS⟩ : ∃ pS, pubS m = pS := ⟨_, rfl⟩; have HPS := Z_ hpS; go_upto_if 21 with (fail)
 go_cut [4] from 21 to 21 (fun s w' => s = .string pS ∧ w' = w1)
 case first =>
  unfold pubS at hpS; by_cases hp2 : 2 ≤ (m : Int).tmod 4
  ·rw [if_pos hp2] at hpS
   subst hpS; go_wp2_with fail
   go_meet
   exact ⟨rfl, rfl⟩
  ·rw [if_neg hp2] at hpS
   subst hpS; go_wp2_with fail
   go_meet
   exact ⟨rfl, rfl⟩
 case rest =>
  obtain ⟨rfl, rfl⟩ := hcut; clear hpS; generalize wc = w1 at *; go_wp2_with fail
  refine (HC.out _).mono ?_
  rintro e w2 ⟨rfl, hE2⟩; clear q1; go_wp2_with fail
  go_ret
  exact ⟨rfl, HX.out.ext hE2⟩
set_option maxRecDepth 100000 in
set_option maxHeartbeats 4000000 in
theorem sh_name {t : ByteArray} (ht : WholeT t) (hs : t.size ≤ 100) (v : Value) (w : World) (hx : NgAt w (.mk 16 t 0 []) v) :
  Calls Tryz.prog 97 #[v] w fun e w' => e = .returned (.string (jB (wholeW t))) ∧ Ext w w' := by
 rw [ngAt_mk] at hx; obtain ⟨a, cc, rfl, hx1, hx2, hx3, hx4⟩ := hx; simp only [List.length_nil]; have hX1 := (Chg.refl (fun _ => False) w).alloc (.cells #[.int .i64 16, .string t, .int .i64 0, .slice a 0 cc] 66); have HA := Z_ (Blk.made w #[.int .i64 16, .string t, .int .i64 0, .slice a 0 cc] 66); have HX := Z_ hX1; obtain ⟨P, hP⟩ : ∃ P, w.heap.size = P := ⟨_, rfl⟩; rw [hP] at HA; have HC := Z_ (fun (u : World) => spaced_any t u ht hs); clear ht hs; clear hx1 hx2 hx3 hx4 hX1; go_enter Tryz.func97, Tryz.ntmps97
 go_upto_region 1 with (fail)
 try rw [hP]
 generalize w.alloc (.cells #[.int .i64 16, .string t, .int .i64 0, .slice a 0 cc] 66) = w1 at *; clear hP; have q1 := HA.out.cell; go_wp2_with fail
 refine (HC.out _).mono ?_
 rintro e w2 ⟨rfl, hE2⟩; clear q1; go_wp2_with fail
 go_ret
 exact ⟨rfl, HX.out.ext hE2⟩
set_option maxRecDepth 100000 in
set_option maxHeartbeats 4000000 in
theorem sh_block (l : List Nd) (hz : ∀ y ∈ l, ShC y) (hl : l.length ≤ 500) (hb : ∀ y ∈ l, (jB (showW y)).size ≤ 160000) (v : Value) (w : World) (hx : NgAt w (.mk 6 noText 0 l) v) :
  Calls Tryz.prog 97 #[v] w fun e w' => e = .returned (.string (if l.length = 0 then ⟨#[123, 32, 125]⟩ else (⟨#[123, 32]⟩ ++ lstS ⟨#[32]⟩ 0 l ⟨#[]⟩) ++ ⟨#[32, 125]⟩)) ∧ Ext w w' := by
 rw [ngAt_mk] at hx; obtain ⟨a, cc, rfl, hx1, hx2, hx3, hx4⟩ := hx; obtain ⟨N, hN⟩ : ∃ N, l.length = N := ⟨_, rfl⟩; have HNN := Z_ hN; have HROW : Hid (∀ u, Ext w u → AllIn 4 NgIn u a l) := fun u hE => hx4.keeps (ng_keep2 hE) fun b o y => ngIn_keeps (ng_keep2 hE) b o y
 have hlN : N ≤ 500 := by omega
 have HC := Z_ (fun (u : World) (hE : Ext w u) => list_any l hz ⟨#[32]⟩ a cc u (HROW.out u hE) hl (by decide) hb); have hTs := lst_le ⟨#[32]⟩ (by decide) l 0 ⟨#[]⟩ hb; generalize lstS ⟨#[32]⟩ 0 l ⟨#[]⟩ = T at *; have hTs2 : T.size ≤ 80001500 := by have h9 : (⟨#[]⟩ : ByteArray).size = 0 := rfl; omega
 clear hTs hz hb HROW; rw [hN] at *; obtain ⟨R, hR⟩ : ∃ R : ByteArray, (if N = 0 then ⟨#[123, 32, 125]⟩ else (⟨#[123, 32]⟩ ++ T) ++ ⟨#[32, 125]⟩) = R := ⟨_, rfl⟩; rw [hR]; have hX1 := (Chg.refl (fun _ => False) w).alloc (.cells #[.int .i64 6, .string noText, .int .i64 0, .slice a N cc] 66); have HA := Z_ (Blk.made w #[.int .i64 6, .string noText, .int .i64 0, .slice a N cc] 66); have HX := Z_ hX1; obtain ⟨P, hP⟩ : ∃ P, w.heap.size = P := ⟨_, rfl⟩; rw [hP] at HA; clear hx1 hx2 hx3 hx4 hX1 hN; go_enter Tryz.func97, Tryz.ntmps97
 go_upto_region 1 with (fail)
 try rw [hP]
 generalize w.alloc (.cells #[.int .i64 6, .string noText, .int .i64 0, .slice a N cc] 66) = w1 at *; clear hP; have q1 := HA.out.cell; by_cases h0 : N = 0
 ·subst h0
  rw [if_pos rfl] at hR; subst hR; go_wp2_with fail
  go_ret
  exact ⟨rfl, HX.out⟩
 ·rw [if_neg h0] at hR
  subst hR; have hlw : IntKind.i64.wrap ((N : Int) - 1) = ((N - 1 : Nat) : Int) := by rw [wrap_small _ (by omega) (by omega)]; omega
  have hlw2 : wrap64 ((N : Int) - 1) = ((N - 1 : Nat) : Int) := by unfold wrap64; omega
  have hld : decide (((N - 1 : Nat) : Int) < 0) = false := by first | (simp; done) | (simp; omega)
  go_wp2_with fail
  refine (HC.out _ HX.out).mono ?_
  rintro e w2 ⟨rfl, hE2⟩; clear q1; go_wp2_with fail
  go_ret
  exact ⟨rfl, HX.out.ext hE2⟩
end rpr
end Go.Proofs.YtpcihajmcejliabGreatDoor
