/- The law LinkMakes, walked. -/
import Derived.Test.YtpcihajmcejliabGreatDoorRLinkL
import Derived.Test.YtpcihajmcejliabGreatDoorLinkRun
namespace Go.Proofs.YtpcihajmcejliabGreatDoor
open Go.RowKit Go.WideMaps Go.Maps
namespace linkLaw
open linkw rlink
theorem link_size {l : List FObj} {is : List Ins} {lo hi : Int} (h : linkF l = .good is lo hi) : is.length ≤ 20000 := by
  have he : ∀ m, linkEnd l m = .good is lo hi → is.length ≤ 20000 := fun m h => by
    unfold linkEnd at h
    split at h
    · cases h
    · rename_i h2
      unfold movErr at h2
      split at h2
      · rename_i h3; cases h; exact h3.1
      · cases h2
  unfold linkF at h
  split at h
  · split at h
    · cases h
    · split at h
      · cases h
      · split at h
        · cases h
        · split at h
          · cases h
          · exact he _ h
  · cases h
set_option maxRecDepth 100000 in
set_option maxHeartbeats 8000000 in
theorem rsame_yes (a1 a2 : Option Addr) (n c1 c2 : Nat) (is : List Ins) (lo hi : Int) (w : World) (hn : is.length = n) (h1 : AllIn 5 InsIn5 w a1 is) (h2 : AllIn 5 InsIn5 w a2 is) (hm : n ≤ 9223372036854775807) :
    Calls Tryz.prog 16 #[.agg #[.slice a1 n c1, .int .i64 lo, .int .i64 hi], .agg #[.slice a2 n c2, .int .i64 lo, .int .i64 hi]] w fun e w' => e = .returned (.bool true) ∧ Ext w w' := by
  have HN := Lib.hid hn
  have H1 := Lib.hid (fun (u : World) (hE : Ext w u) => (h1.mono hE.size fun _ _ _ hb h => InsIn5.ext hE hb h : AllIn 5 InsIn5 u a1 is))
  have H2 := Lib.hid (fun (u : World) (hE : Ext w u) => (h2.mono hE.size fun _ _ _ hb h => InsIn5.ext hE hb h : AllIn 5 InsIn5 u a2 is))
  have K1 := (Blk.made w #[.slice a1 n c1, .int .i64 lo, .int .i64 hi] 25).alloc (.cells #[.slice a2 n c2, .int .i64 lo, .int .i64 hi] 25)
  have K2 := Blk.made2 w (.cells #[.slice a1 n c1, .int .i64 lo, .int .i64 hi] 25) #[.slice a2 n c2, .int .i64 lo, .int .i64 hi] 25
  have hE0 := ((Chg.refl (fun _ => False) w).alloc (.cells #[.slice a1 n c1, .int .i64 lo, .int .i64 hi] 25)).alloc (.cells #[.slice a2 n c2, .int .i64 lo, .int .i64 hi] 25)
  clear hn h1 h2
  go_enter Tryz.func16, Tryz.ntmps16
  go_wp2_with fail
  generalize (w.alloc (.cells #[.slice a1 n c1, .int .i64 lo, .int .i64 hi] 25)).alloc (.cells #[.slice a2 n c2, .int .i64 lo, .int .i64 hi] 25) = w1 at *
  obtain ⟨k1, hk1⟩ : ∃ q, w.heap.size = q := ⟨_, rfl⟩
  rw [hk1] at K1 K2 ⊢
  clear hk1
  go_loopw [5] (fun i wr => ∃ k : Nat, k ≤ n ∧ i = .int .i64 k ∧ Ext w1 wr) (fun i _ => n - (intOf i).toNat)
  case atStart => exact ⟨0, Nat.zero_le _, rfl, Chg.refl _ _⟩
  case round =>
    obtain ⟨k, hk, rfl, hE⟩ := hrel
    have hEw := hE0.ext hE
    have e1 := (K1.ext hE).cell
    have e2 := (K2.ext hE).cell
    have l1 := (K1.ext hE).lt
    have l2 := (K2.ext hE).lt
    by_cases hlt : k < n
    · have hkl : k < is.length := by rw [HN.out]; exact hlt
      obtain ⟨b1, o1, rfl, hb1, p0, p1, p2, p3, p4⟩ := H1.out wr hEw k hkl
      obtain ⟨b2, o2, rfl, hb2, q0, q1, q2, q3, q4⟩ := H2.out wr hEw k hkl
      generalize is[k] = x at *
      obtain ⟨x0, x1, x2, x3, x4⟩ := x
      simp only at p0 p1 p2 p3 p4 q0 q1 q2 q3 q4
      go_wp2_with fail
      go_quiet (fail)
      have hE9 := hE.drewN nq
      generalize wr.drewN nq = w9 at *
      clear p0 p1 p2 p3 p4 q0 q1 q2 q3 q4 e1 e2 l1 l2 hb1 hb2 hEw hE
      go_wp2_with fail
      go_roundw
      case rel => exact ⟨k + 1, by omega, by go_num, hE9⟩
      case measure => simp [intOf]; omega
    · obtain rfl : k = n := by omega
      go_wp2_with fail
      go_ret
      exact ⟨rfl, hEw⟩
set_option maxRecDepth 100000 in
set_option maxHeartbeats 8000000 in
theorem makes_any (a : Option Addr) (l : List FObj) (n cap : Nat) (w : World) (hn : l.length = n) (hl : AllIn 13 ObjIn w a l) (hcap : n ≤ cap) (hsm : ∀ x ∈ l, ObjSmall x) (hev : ErrVar w) (hmv : MaxVar w) :
    Calls Tryz.prog 3 #[.slice a n cap] w fun e w' => e = .returned (.bool true) ∧ Ext w w' := by
  have HL := Lib.hid (link_any a l n cap w hn hl hsm hev hmv)
  have HR := Lib.hid (fun (u : World) (hE : Ext w u) => rlink_any a l n cap u hn (hl.mono hE.size fun _ _ _ hb h => ObjIn.ext hE hb h) hcap hsm)
  have HSZ := Lib.hid (fun (is : List Ins) (lo hi : Int) (h : linkF l = .good is lo hi) => link_size h)
  clear hn hl hsm hev hmv
  generalize linkF l = T at *
  go_enter Tryz.func3, Tryz.ntmps3
  go_wp2_with fail
  refine HL.out.mono ?_
  rintro e w1 ⟨hE1, h1⟩
  cases T with
  | bad m c k =>
    obtain rfl : e = _ := h1
    unfold zeroImg
    have K2 := Blk.made2 w1 (.cells #[.slice none 0 0, .int .i64 0, .int .i64 0] 25) #[.int .i64 m, .int .i64 c, .int .i64 k] 28
    have K1 := (Blk.made w1 #[.slice none 0 0, .int .i64 0, .int .i64 0] 25).alloc (.cells #[.int .i64 m, .int .i64 c, .int .i64 k] 28)
    have hX := (hE1.alloc (.cells #[.slice none 0 0, .int .i64 0, .int .i64 0] 25)).alloc (.cells #[.int .i64 m, .int .i64 c, .int .i64 k] 28)
    go_wp2_with fail
    generalize (w1.alloc (.cells #[.slice none 0 0, .int .i64 0, .int .i64 0] 25)).alloc (.cells #[.int .i64 m, .int .i64 c, .int .i64 k] 28) = w2 at *
    obtain ⟨k1, hk1⟩ : ∃ q, w1.heap.size = q := ⟨_, rfl⟩
    rw [hk1] at K1 K2 ⊢
    clear hk1
    refine (HR.out w2 hX).mono ?_
    rintro e w3 ⟨hE3, h3⟩
    obtain rfl : e = _ := h3
    unfold zeroImg
    have K13 := (K1.ext hE3).cell
    have K23 := (K2.ext hE3).cell
    have l1 := (K1.ext hE3).lt
    have l2 := (K2.ext hE3).lt
    have hX3 := (hX.ext hE3).alloc (.cells #[.slice none 0 0, .int .i64 0, .int .i64 0] 25) |>.alloc (.cells #[.int .i64 m, .int .i64 c, .int .i64 k] 28)
    go_wp2_with fail
    refine (rsame_yes none none 0 0 0 [] 0 0 _ rfl (fun j hj => absurd hj (Nat.not_lt_zero _)) (fun j hj => absurd hj (Nat.not_lt_zero _)) (by decide)).mono ?_
    rintro e w5 ⟨rfl, hE5⟩
    go_wp2_with fail
    go_ret
    exact ⟨rfl, hX3.ext hE5⟩
  | good is lo hi =>
    obtain ⟨g, ci, rfl, hall⟩ := h1
    have hsz := HSZ.out is lo hi rfl
    obtain ⟨NI, hNI⟩ : ∃ q, is.length = q := ⟨_, rfl⟩
    rw [hNI] at hsz ⊢
    have HNI := Lib.hid hNI
    clear hNI HSZ
    have K2 := Blk.made2 w1 (.cells #[.slice (some ⟨g, 0, none⟩) NI ci, .int .i64 lo, .int .i64 hi] 25) #[.int .i64 0, .int .i64 0, .int .i64 0] 28
    have K1 := (Blk.made w1 #[.slice (some ⟨g, 0, none⟩) NI ci, .int .i64 lo, .int .i64 hi] 25).alloc (.cells #[.int .i64 0, .int .i64 0, .int .i64 0] 28)
    have hXa := ((Chg.refl (fun _ => False) w1).alloc (.cells #[.slice (some ⟨g, 0, none⟩) NI ci, .int .i64 lo, .int .i64 hi] 25)).alloc (.cells #[.int .i64 0, .int .i64 0, .int .i64 0] 28)
    go_wp2_with fail
    generalize (w1.alloc (.cells #[.slice (some ⟨g, 0, none⟩) NI ci, .int .i64 lo, .int .i64 hi] 25)).alloc (.cells #[.int .i64 0, .int .i64 0, .int .i64 0] 28) = w2 at *
    obtain ⟨k1, hk1⟩ : ∃ q, w1.heap.size = q := ⟨_, rfl⟩
    rw [hk1] at K1 K2 ⊢
    clear hk1
    refine (HR.out w2 (hE1.ext hXa)).mono ?_
    rintro e w3 ⟨hE3, h3⟩
    obtain ⟨g2, ci2, rfl, hall2⟩ := h3
    rw [HNI.out]
    have K13 := (K1.ext hE3).cell
    have K23 := (K2.ext hE3).cell
    have l1 := (K1.ext hE3).lt
    have l2 := (K2.ext hE3).lt
    have hXb := ((Chg.refl (fun _ => False) w3).alloc (.cells #[.slice (some ⟨g2, 0, none⟩) NI ci2, .int .i64 lo, .int .i64 hi] 25)).alloc (.cells #[.int .i64 0, .int .i64 0, .int .i64 0] 28)
    have hA1 := hall.mono ((hXa.ext hE3).ext hXb).size fun _ _ _ hb h => InsIn5.ext ((hXa.ext hE3).ext hXb) hb h
    have hA2 := hall2.mono hXb.size fun _ _ _ hb h => InsIn5.ext hXb hb h
    have hX9 := ((hE1.ext hXa).ext hE3).ext hXb
    go_wp2_with fail
    refine (rsame_yes (some ⟨g, 0, none⟩) (some ⟨g2, 0, none⟩) NI ci ci2 is lo hi _ HNI.out hA1 hA2 (by omega)).mono ?_
    rintro e w5 ⟨rfl, hE5⟩
    go_wp2_with fail
    go_ret
    exact ⟨rfl, hX9.ext hE5⟩
end linkLaw
end Go.Proofs.YtpcihajmcejliabGreatDoor
