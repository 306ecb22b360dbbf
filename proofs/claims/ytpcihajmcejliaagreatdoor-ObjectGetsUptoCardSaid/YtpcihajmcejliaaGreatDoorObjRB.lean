/- The walks of the reference's bytes: numbers, texts. -/
import Derived.Test.YtpcihajmcejliaaGreatDoorObjMath
import Derived.Test.YtpcihajmcejliaaGreatDoorProg
import Derived.WalkKit
import Derived.Deep.OwnRows
import Derived.Laws.IdiomStrings
namespace Go.Proofs.YtpcihajmcejliaaGreatDoor
open Go.RowKit
namespace obj
def numCells (n : Int) (j : Nat) : Nat → Value := fun i => .int .u8 (if 8 - j ≤ i then ((byteAt n (56 - 8 * i)).toNat : Int) else 0)
theorem numCells_step (n : Int) (j : Nat) (h : j < 8) : ∀ i, i < 8 → (if i = 7 - j then Value.int .u8 ((byteAt n (8 * j)).toNat : Int) else numCells n j i) = numCells n (j + 1) i := by
  intro i hi
  unfold numCells
  by_cases e : i = 7 - j
  · rw [if_pos e, if_pos (by omega), show 56 - 8 * i = 8 * j by omega]
  · rw [if_neg e]
    by_cases h2 : 8 - j ≤ i
    · rw [if_pos h2, if_pos (by omega)]
    · rw [if_neg h2, if_neg (by omega)]
set_option maxRecDepth 100000 in
set_option maxHeartbeats 4000000 in
theorem number_any (n : Int) (hn : -9223372036854775808 ≤ n ∧ n ≤ 9223372036854775807) (w : World) :
    Calls Tryz.prog 41 #[.int .i64 n] w fun e w' => e = .returned (.string ⟨(num8 n).toArray⟩) ∧ Ext w w' := by
  have HN := Lib.hid hn
  clear hn
  go_enter Tryz.func41, Tryz.ntmps41
  go_wp2_with fail
  go_loopw [0, 4] (fun s0 s4 wr => ∃ k j : Nat, k + j = 8 ∧ s4 = .int .i64 ((k : Int) - 1) ∧ s0 = .int .i64 (n / 2 ^ (8 * j)) ∧ wr.rowIs w.heap.size 161 8 (numCells n j) ∧ Ext w wr) (fun _ s4 _ => (intOf s4 + 1).toNat)
  case atStart =>
    refine ⟨8, 0, rfl, rfl, by simp, World.rowIs_alloc w _ _ _ (fun i hi => ?_), (Chg.refl _ _).alloc _⟩
    have hi : i < 8 := hi
    have : i = 0 ∨ i = 1 ∨ i = 2 ∨ i = 3 ∨ i = 4 ∨ i = 5 ∨ i = 6 ∨ i = 7 := by omega
    rcases this with rfl | rfl | rfl | rfl | rfl | rfl | rfl | rfl
    all_goals rfl
  case round =>
    obtain ⟨k, j, hkj, rfl, rfl, hrow, hE⟩ := hrel
    cases k with
    | zero =>
      obtain rfl : j = 8 := by omega
      have hbk := run_convert_bytes_back (P := Tryz.prog) wr 33 9 5 ⟨w.heap.size, 0, none⟩ 8 (num8 n) Tryz.underlying33 Tryz.underlying5 Tryz.underlying9 (fun i hi => by
        have hi : i < 8 := hi
        have e : (⟨w.heap.size, 0, none⟩ : Addr).add i = ⟨w.heap.size, i, none⟩ := by unfold Addr.add; split <;> simp_all
        rw [e, hrow.cell hi, num8_at]
        unfold numCells
        rw [if_pos (by omega)])
      rw [num8_len] at hbk
      go_wp2_with fail
      go_ret
      exact ⟨rfl, hE⟩
    | succ k =>
      rw [show ((k + 1 : Nat) : Int) - 1 = (k : Int) by omega]
      have hb := HN.out
      have hm1 : -9223372036854775808 ≤ n / 2 ^ (8 * j) ∧ n / 2 ^ (8 * j) ≤ 9223372036854775807 := by
        have hp : (1 : Int) ≤ 2 ^ (8 * j) := by
          have : (0 : Int) < 2 ^ (8 * j) := Int.pow_pos (by decide)
          omega
        by_cases hn0 : 0 ≤ n
        · have h1 := Int.ediv_le_self (2 ^ (8 * j)) hn0
          have h2 := Int.ediv_nonneg hn0 (show (0 : Int) ≤ 2 ^ (8 * j) by omega)
          omega
        · have h1 := Int.ediv_neg_of_neg_of_pos (show n < 0 by omega) (show (0 : Int) < 2 ^ (8 * j) by omega)
          have h2 : n * 2 ^ (8 * j) ≤ n * 1 := Int.mul_le_mul_of_nonpos_left (by omega) hp
          have h3 : n ≤ n / 2 ^ (8 * j) := (Int.le_ediv_iff_mul_le (by omega)).2 (by omega)
          omega
      have hnext : n / 2 ^ (8 * j) / 256 = n / 2 ^ (8 * (j + 1)) := by
        rw [Int.ediv_ediv_of_nonneg (by have : (0 : Int) < 2 ^ (8 * j) := Int.pow_pos (by decide); omega), show 8 * (j + 1) = 8 * j + 8 by omega, Int.pow_add]
        rfl
      have hbyte := byteAt_nat n (8 * j)
      have hrow2 := hrow.set k (.int .u8 ((byteAt n (8 * j)).toNat : Int))
      have hrow3 : (wr.setCell ⟨w.heap.size, k, none⟩ (.int .u8 ((byteAt n (8 * j)).toNat : Int))).rowIs w.heap.size 161 8 (numCells n (j + 1)) := hrow2.congr (fun i hi => by
        have := numCells_step n j (by omega) i hi
        rw [show 7 - j = k by omega] at this
        exact this)
      rw [hbyte] at hrow3
      have HR3 := Lib.hid hrow3
      have HNX := Lib.hid hnext
      have hc := hrow.cell (show k < 8 by omega)
      have hf := hrow.frozen k
      clear hrow2 hrow3 hbyte hnext hb
      generalize n / 2 ^ (8 * j) = m at *
      obtain ⟨q, hq⟩ : ∃ q, m / 256 = q := ⟨_, rfl⟩
      obtain ⟨r, hr⟩ : ∃ r, m % 256 = r := ⟨_, rfl⟩
      have hrb : 0 ≤ r ∧ r < 256 := by omega
      have hmq : m - r = 256 * q := by omega
      have hmr : -9223372036854775808 ≤ m - r ∧ m - r ≤ 9223372036854775807 := by omega
      have hdiv : (m - r).tdiv 256 = q := by rw [hmq]; exact Int.mul_tdiv_cancel_left _ (by decide)
      have hw8 : IntKind.u8.wrap r = r := by rw [IntKind.wrap_u8]; omega
      rw [hr] at HR3
      rw [hq] at HNX
      have htm : (m.tmod 256 < 0 → m.tmod 256 + 256 = r) ∧ (¬ m.tmod 256 < 0 → m.tmod 256 = r) := by
        have h1 := Int.mul_tdiv_add_tmod m 256
        have h2 : (m.tmod 256).natAbs < 256 := by rw [Int.natAbs_tmod]; exact Nat.mod_lt _ (by decide)
        rw [← hr]
        omega
      clear hq hr
      have hki : (k : Int) < 8 := by omega
      have HTM := Lib.hid htm
      have HB := Lib.hid (And.intro hrb (And.intro hmr (And.intro hdiv hmq)))
      clear htm hrb hmq hmr hdiv hw8
      go_wp2_with fail
      · have e : m.tmod 256 + 256 = r := HTM.out.1 (by assumption)
        obtain ⟨hrb, hmr, hdiv, hmq⟩ := HB.out
        rw [e, show wrap64 r = r by unfold wrap64; omega, show wrap64 (m - r) = m - r by unfold wrap64; omega, hdiv, show wrap64 q = q by unfold wrap64; omega, show r % 256 = r by omega]
        exact ⟨⟨k, j + 1, by omega, rfl, by rw [HNX.out], HR3.out, hE.setNew (Nat.le_refl _) _⟩, by simp [intOf]⟩
      · have e : m.tmod 256 = r := HTM.out.2 (by omega)
        obtain ⟨hrb, hmr, hdiv, hmq⟩ := HB.out
        rw [e, show wrap64 (m - r) = m - r by unfold wrap64; omega, hdiv, show wrap64 q = q by unfold wrap64; omega, show r % 256 = r by omega]
        exact ⟨⟨k, j + 1, by omega, rfl, by rw [HNX.out], HR3.out, hE.setNew (Nat.le_refl _) _⟩, by simp [intOf]⟩
/-- a row of numbers, read -/
def NumsAt (w : World) (a : Option Addr) (l : List Int) : Prop := AllIn 1 IntIn w a l ∧ ∀ x ∈ l, -9223372036854775808 ≤ x ∧ x ≤ 9223372036854775807
theorem numsL_take (l : List Int) (k : Nat) (h : k < l.length) : numsL (l.take (k + 1)) = numsL (l.take k) ++ num8 l[k] := by
  unfold numsL
  rw [List.take_succ_eq_append_getElem h, List.flatMap_append, List.flatMap_cons, List.flatMap_nil, List.append_nil]
theorem numsL_len (l : List Int) : (numsL l).length = 8 * l.length := by
  unfold numsL
  induction l with
  | nil => rfl
  | cons x r ih => rw [List.flatMap_cons, List.length_append, ih, num8_len, List.length_cons]; omega
set_option maxRecDepth 100000 in
set_option maxHeartbeats 4000000 in
theorem numbers_any (a : Option Addr) (l : List Int) (cap n : Nat) (w : World) (hn : l.length = n) (hl : NumsAt w a l) (hs : n ≤ 2000000000000000) :
    Calls Tryz.prog 40 #[.slice a n cap] w fun e w' => e = .returned (.string ⟨(numsL l).toArray⟩) ∧ Ext w w' := by
  have HL := Lib.hid hl
  have HN := Lib.hid hn
  clear hl hn
  go_enter Tryz.func40, Tryz.ntmps40
  go_wp2_with fail
  go_loopw [3, 4] (fun s3 s4 wr => ∃ k : Nat, k ≤ n ∧ s4 = .int .i64 k ∧ s3 = .string ⟨(numsL (l.take k)).toArray⟩ ∧ Ext w wr) (fun _ s4 _ => n - (intOf s4).toNat)
  case atStart => exact ⟨0, Nat.zero_le _, rfl, rfl, Chg.refl _ _⟩
  case round =>
    obtain ⟨k, hk, rfl, rfl, hE⟩ := hrel
    by_cases hlt : k < n
    · have hkl : k < l.length := by rw [HN.out]; exact hlt
      obtain ⟨b, o, rfl, hb, hc⟩ := HL.out.1 k hkl
      have hc2 := IntIn.ext hE hb hc
      unfold IntIn at hc2
      rw [Nat.mul_one] at hc2
      have HX := Lib.hid (HL.out.2 _ (List.getElem_mem hkl))
      have HT := Lib.hid (numsL_take l k hkl)
      have hlen : (numsL (l.take k)).length = 8 * k := by rw [numsL_len, List.length_take]; omega
      have hki : (k : Int) < (n : Int) := by omega
      clear hc
      generalize l[k] = x at *
      generalize numsL (l.take k) = L at *
      have h8 := num8_len x
      have happ := ByteArray.mk_append_mk
      go_wp2_with (go_at_call 41; refine (number_any x HX.out _).mono ?_; rintro e w2 ⟨rfl, hE2⟩)
      go_roundw
      case rel => exact ⟨k + 1, by omega, by go_num, by rw [HT.out], hE.then hE2⟩
      case measure => simp [intOf]; omega
    · obtain rfl : k = n := by omega
      have e : l.take k = l := List.take_of_length_le (by rw [HN.out]; exact Nat.le_refl _)
      rw [e]
      go_wp2_with fail
      go_ret
      exact ⟨rfl, hE⟩
theorem NumsAt.ofBlk {w : World} {l : List Int} {T : TypeId} {b : Nat} (h : Blk w b (l.map (Value.int .i64)).toArray T) (hb : ∀ x ∈ l, -9223372036854775808 ≤ x ∧ x ≤ 9223372036854775807) : NumsAt w (some ⟨b, 0, none⟩) l := by
  refine ⟨fun j hj => ⟨b, 0, rfl, h.lt, ?_⟩, hb⟩
  unfold IntIn
  rw [h.cell]
  simp [hj]
set_option maxRecDepth 100000 in
set_option maxHeartbeats 4000000 in
theorem text_any (s : ByteArray) (w : World) (hs : s.size ≤ 2000000000000000) :
    Calls Tryz.prog 42 #[.string s] w fun e w' => e = .returned (.string ⟨(textL s).toArray⟩) ∧ Ext w w' := by
  have HC := Lib.hid (fun w' (hl : NumsAt w' (some ⟨w.heap.size, 0, none⟩) [(s.size : Int)]) => numbers_any (some ⟨w.heap.size, 0, none⟩) [(s.size : Int)] 1 1 w' rfl hl (by decide))
  have hnL : numsL [(s.size : Int)] = num8 s.size := by simp [numsL]
  rw [hnL] at HC
  have HA := Lib.hid (show NumsAt (w.alloc (.cells #[.int .i64 s.size] 3)) (some ⟨w.heap.size, 0, none⟩) [(s.size : Int)] from NumsAt.ofBlk (Blk.made w #[.int .i64 s.size] 3) (fun x hx => by simp at hx; subst hx; omega))
  have h8 := num8_len (s.size : Int)
  have hT : textL s = num8 s.size ++ s.data.toList := rfl
  have hsd : (⟨(num8 s.size).toArray⟩ : ByteArray) ++ s = ⟨(textL s).toArray⟩ := by
    rw [hT, ← ByteArray.mk_append_mk]
  clear hT hnL
  go_enter Tryz.func42, Tryz.ntmps42
  go_wp2_with (go_at_call 40; refine (HC.out _ HA.out).mono ?_; rintro e w2 ⟨rfl, hE2⟩)
  go_ret
  exact ⟨rfl, ((Chg.refl _ w).alloc _).then hE2⟩
set_option maxRecDepth 100000 in
set_option maxHeartbeats 4000000 in
theorem truth_any (b : Bool) (w : World) :
    Calls Tryz.prog 93 #[.bool b] w fun e w' => e = .returned (.string ⟨(truthL b).toArray⟩) ∧ Ext w w' := by
  have HC := Lib.hid (fun (x : Int) w' (hl : NumsAt w' (some ⟨w.heap.size, 0, none⟩) [x]) => numbers_any (some ⟨w.heap.size, 0, none⟩) [x] 1 1 w' rfl hl (by decide))
  have HA := Lib.hid (fun (x : Int) (hx : 0 ≤ x ∧ x ≤ 1) => show NumsAt (w.alloc (.cells #[.int .i64 x] 3)) (some ⟨w.heap.size, 0, none⟩) [x] from NumsAt.ofBlk (Blk.made w #[.int .i64 x] 3) (fun y hy => by simp at hy; subst hy; omega))
  cases b
  · go_enter Tryz.func93, Tryz.ntmps93
    go_wp2_with (go_at_call 40; refine (HC.out 0 _ (HA.out 0 (by decide))).mono ?_; rintro e w2 ⟨rfl, hE2⟩)
    go_ret
    exact ⟨by simp [numsL, truthL], ((Chg.refl _ w).alloc _).then hE2⟩
  · go_enter Tryz.func93, Tryz.ntmps93
    go_wp2_with (go_at_call 40; refine (HC.out 1 _ (HA.out 1 (by decide))).mono ?_; rintro e w2 ⟨rfl, hE2⟩)
    go_ret
    exact ⟨by simp [numsL, truthL], ((Chg.refl _ w).alloc _).then hE2⟩
end obj
end Go.Proofs.YtpcihajmcejliaaGreatDoor
