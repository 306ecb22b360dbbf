/- The walk of the law SyntaxParses: both Parses come to one node and one fault. -/
import Derived.Test.YtpcihajmcejliabGreatDoorSynR12
namespace Go.Proofs.YtpcihajmcejliabGreatDoor
open Go.RowKit
namespace syntaxParses
open synw synr
theorem hide_none (w : World) : Keeps w (hide (fun _ => false) w) := ⟨by rw [hide_size]; exact Nat.le_refl _, fun p u hp => by rw [hide_cell (fun _ => false) w p rfl]; exact hp⟩
theorem ndAt_hide0 {w : World} {x : Nd} {v : Value} (h : NdAt w x v) : NdAt (hide (fun _ => false) w) x v := ndAt_keeps (hide_none w) _ _ h
set_option maxRecDepth 100000 in
set_option maxHeartbeats 2000000 in
theorem walk (s : ByteArray) (w : World) (hs : s.size ≤ 9223372036854775807) (hv : ErrVar w) (hm : MaxVar w) :
    Calls Tryz.prog 6 #[.string s] w fun e w' => e = .returned (.bool true) ∧ Ext w w' := by
  have C1 := Lib.hid (parse_any s w hs hv hm)
  have C2 := Lib.hid (fun w => rparse_any s w hs)
  obtain ⟨Q, hQ⟩ : ∃ Q, parseR s = Q := ⟨_, rfl⟩
  rw [hQ] at C1 C2
  obtain ⟨x, c, a⟩ := Q
  clear hQ hv hm
  go_enter Tryz.func6, Tryz.ntmps6
  go_wp2_with fail
  refine C1.out.mono ?_
  rintro e w1 ⟨hE1, v1, rfl, hn1⟩
  obtain ⟨k1, t1, m1, a1, l1, c1, rfl⟩ := nd_form hn1
  have hE2 := (hE1.alloc (.cells #[.int .i64 k1, .string t1, .int .i64 m1, .slice a1 l1 c1] 66)).alloc (.cells #[.int .i64 c, .int .i64 a] 68)
  have HA := Lib.hid ((Blk.made w1 #[.int .i64 k1, .string t1, .int .i64 m1, .slice a1 l1 c1] 66).alloc (.cells #[.int .i64 c, .int .i64 a] 68))
  have HF := Lib.hid (Blk.made2 w1 (.cells #[.int .i64 k1, .string t1, .int .i64 m1, .slice a1 l1 c1] 66) #[.int .i64 c, .int .i64 a] 68)
  have HN := Lib.hid (ndAt_keeps (keeps_chg (M := fun _ => false) (((Chg.refl (fun _ => False) w1).alloc (.cells #[.int .i64 k1, .string t1, .int .i64 m1, .slice a1 l1 c1] 66)).alloc (.cells #[.int .i64 c, .int .i64 a] 68)) (fun i _ e => e.elim)) x _ (ndAt_hide0 hn1))
  have HE2 := Lib.hid hE2
  obtain ⟨P, hP⟩ : ∃ P, w1.heap.size = P := ⟨_, rfl⟩
  rw [hP] at HA HF
  clear hE1 hE2 hn1 C1
  go_upto_region 2 with (fail)
  try rw [hP]
  generalize (w1.alloc (.cells #[.int .i64 k1, .string t1, .int .i64 m1, .slice a1 l1 c1] 66)).alloc (.cells #[.int .i64 c, .int .i64 a] 68) = u1 at *
  go_wp2_with fail
  refine (C2.out _).mono ?_
  rintro e w2 ⟨hE3, v2, rfl, hn2⟩
  obtain ⟨k2, t2, m2, a2, l2, c2, rfl⟩ := nd_form hn2
  have hX := ((Chg.refl (fun _ => False) w2).alloc (.cells #[.int .i64 k2, .string t2, .int .i64 m2, .slice a2 l2 c2] 66)).alloc (.cells #[.int .i64 c, .int .i64 a] 68)
  have HA2 := Lib.hid ((HA.out.ext hE3).ext hX)
  have HF2 := Lib.hid ((HF.out.ext hE3).ext hX)
  have HB := Lib.hid ((Blk.made w2 #[.int .i64 k2, .string t2, .int .i64 m2, .slice a2 l2 c2] 66).alloc (.cells #[.int .i64 c, .int .i64 a] 68))
  have HG := Lib.hid (Blk.made2 w2 (.cells #[.int .i64 k2, .string t2, .int .i64 m2, .slice a2 l2 c2] 66) #[.int .i64 c, .int .i64 a] 68)
  have HN2 := Lib.hid (ndAt_keeps (keeps_chg (M := fun _ => false) (hE3.ext hX) (fun i _ e => e.elim)) x _ HN.out)
  have HM2 := Lib.hid (ndAt_keeps (keeps_chg (M := fun _ => false) hX (fun i _ e => e.elim)) x _ (ndAt_hide0 hn2))
  have HE4 := Lib.hid ((HE2.out.ext hE3).ext hX)
  obtain ⟨R, hR⟩ : ∃ R, w2.heap.size = R := ⟨_, rfl⟩
  rw [hR] at HB HG
  clear hE3 hX hn2 C2 HA HF HN HE2
  go_upto_region 3 with (fail)
  try rw [hR]
  generalize (w2.alloc (.cells #[.int .i64 k2, .string t2, .int .i64 m2, .slice a2 l2 c2] 66)).alloc (.cells #[.int .i64 c, .int .i64 a] 68) = u2 at *
  have q1 := HA2.out.cell
  have q2 := HF2.out.cell
  have q3 := HB.out.cell
  have q4 := HG.out.cell
  have C3 := Lib.hid (same_any x _ _ u2 _ _ HN2.out HM2.out)
  go_wp2_with fail
  refine C3.out.mono ?_
  rintro e w3 ⟨rfl, hE5⟩
  go_wp2_with fail
  go_ret
  exact ⟨rfl, HE4.out.ext hE5⟩
end syntaxParses
end Go.Proofs.YtpcihajmcejliabGreatDoor
