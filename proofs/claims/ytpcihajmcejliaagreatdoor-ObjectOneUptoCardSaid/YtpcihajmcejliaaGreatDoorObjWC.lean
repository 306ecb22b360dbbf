/- The walk of the program's writer: one of a list. -/
import Derived.Test.YtpcihajmcejliaaGreatDoorObjWT
import Derived.Test.YtpcihajmcejliaaGreatDoorObjRO
namespace Go.Proofs.YtpcihajmcejliaaGreatDoor
open Go.RowKit
namespace objw
theorem text_new {w : World} {B S : Nat} {v : Value} {bs : List UInt8} (x : ByteArray) {g : Nat} (hg : w.heap.size = g) (h : Wr w B S v bs) (hs : bs.length + (textL x).length ≤ 100000000000000) :
    Calls Tryz.prog 31 #[.pointer (some ⟨S, 0, none⟩), .slice (some ⟨g, 0, none⟩) 1 1] (w.alloc (.cells #[.string x] 9)) fun e w' => e = .returned (.tuple #[]) ∧ Wrote w B S v (bs ++ textL x) w' := by
  subst hg
  have e : [x].flatMap textL = textL x := by simp
  have := texts_new [x] 1 9 rfl h (by rw [e]; exact hs)
  rw [e] at this
  exact this
theorem truth_new {w : World} {B S : Nat} {v : Value} {bs : List UInt8} (x : Bool) {g : Nat} (hg : w.heap.size = g) (h : Wr w B S v bs) (hs : bs.length + (truthL x).length ≤ 100000000000000) :
    Calls Tryz.prog 82 #[.pointer (some ⟨S, 0, none⟩), .slice (some ⟨g, 0, none⟩) 1 1] (w.alloc (.cells #[.bool x] 4)) fun e w' => e = .returned (.tuple #[]) ∧ Wrote w B S v (bs ++ truthL x) w' := by
  subst hg
  have e : [x].flatMap truthL = truthL x := by simp
  have := truths_new [x] 1 4 rfl h (by rw [e]; exact hs)
  rw [e] at this
  exact this
theorem num_new {w : World} {B S : Nat} {v : Value} {bs : List UInt8} (x : Int) {g : Nat} (hg : w.heap.size = g) (h : Wr w B S v bs) (hx : -9223372036854775808 ≤ x ∧ x ≤ 9223372036854775807) (hs : bs.length + (num8 x).length ≤ 100000000000000) :
    Calls Tryz.prog 27 #[.pointer (some ⟨S, 0, none⟩), .slice (some ⟨g, 0, none⟩) 1 1] (w.alloc (.cells #[.int .i64 x] 3)) fun e w' => e = .returned (.tuple #[]) ∧ Wrote w B S v (bs ++ num8 x) w' := by
  subst hg
  have e : numsL [x] = num8 x := by simp [numsL]
  have := nums_new [x] 1 3 rfl h (fun z hz => by simp at hz; subst hz; exact hx) hs
  rw [e] at this
  exact this
theorem nums_at {w : World} {B S : Nat} {v : Value} {bs : List UInt8} (l : List Int) (n : Nat) {g : Nat} (hg : w.heap.size = g) (hn : l.length = n) (h : Wr w B S v bs) (hb : ∀ x ∈ l, inI x) (hs : bs.length + (numsL l).length ≤ 100000000000000) :
    Calls Tryz.prog 27 #[.pointer (some ⟨S, 0, none⟩), .slice (some ⟨g, 0, none⟩) n n] (w.alloc (.cells (l.map (Value.int .i64)).toArray 3)) fun e w' => e = .returned (.tuple #[]) ∧ Wrote w B S v (bs ++ numsL l) w' := by
  subst hg
  exact nums_new l n 3 hn h hb (by rw [obj.numsL_len, hn] at hs; exact hs)
theorem texts_at {w : World} {B S : Nat} {v : Value} {bs : List UInt8} (l : List ByteArray) (n : Nat) {g : Nat} (hg : w.heap.size = g) (hn : l.length = n) (h : Wr w B S v bs) (hs : bs.length + (l.flatMap textL).length ≤ 100000000000000) :
    Calls Tryz.prog 31 #[.pointer (some ⟨S, 0, none⟩), .slice (some ⟨g, 0, none⟩) n n] (w.alloc (.cells (l.map Value.string).toArray 9)) fun e w' => e = .returned (.tuple #[]) ∧ Wrote w B S v (bs ++ l.flatMap textL) w' := by
  subst hg
  exact texts_new l n 9 hn h hs
set_option maxRecDepth 100000 in
set_option maxHeartbeats 16000000 in
theorem place_any {w : World} {B S : Nat} {v : Value} {bs : List UInt8} (x : FPlc) (h : Wr w B S v bs) (hx : inI x.at_) (hs : bs.length + (plcL x).length ≤ 100000000000000) :
    Calls Tryz.prog 33 #[.pointer (some ⟨S, 0, none⟩), .agg #[.string x.name, .int .i64 x.at_]] w fun e w' => e = .returned (.tuple #[]) ∧ Wrote w B S v (bs ++ plcL x) w' := by
  obtain ⟨nm, va⟩ := x
  simp only at hx ⊢
  replace hs : bs.length + (textL nm ++ num8 va).length ≤ 100000000000000 := hs
  repeat rw [List.length_append] at hs
  have e1 : (textL nm).length = 8 + nm.size := obj.text_len nm
  have e2 : (num8 va).length = 8 := obj.num8_len _
  have hW0 := Wr.alloc h (.cells #[.string nm, .int .i64 va] 84)
  have hS0 := (Since.refl w v S).alloc (.cells #[.string nm, .int .i64 va] 84)
  have hN0 := Apart.made h #[.string nm, .int .i64 va] 84
  have hNc0 := hN0.blk.cell
  have hNf0 := hN0.blk.frozen
  have hNl0 := hN0.blk.lt
  go_enter Tryz.func33, Tryz.ntmps33
  go_wp2_with (first | (go_at_call 31; refine (text_new nm (by first | rfl | simp) hW0 (by (repeat rw [List.length_append]); omega)).mono ?_; rintro e w1 ⟨rfl, hw1⟩; obtain ⟨v1, hW1, hs1⟩ := Wrote.out hw1; clear hw1; have hS1 := hS0.trans hs1; have hN1 := hN0.since hs1; have hNc1 := hN1.blk.cell; have hNf1 := hN1.blk.frozen; have hNl1 := hN1.blk.lt; clear hs1) | (go_at_call 27; refine (num_new va (by first | rfl | simp) hW1 hx (by (repeat rw [List.length_append]); omega)).mono ?_; rintro e w2 ⟨rfl, hw2⟩; obtain ⟨v2, hW2, hs2⟩ := Wrote.out hw2; clear hw2; have hS2 := hS1.trans hs2; have hN2 := hN1.since hs2; have hNc2 := hN2.blk.cell; have hNf2 := hN2.blk.frozen; have hNl2 := hN2.blk.lt; clear hs2))
  go_end0
  exact ⟨rfl, Wrote.mk (by first | exact hW2 | (rw [plcL]; rw [List.append_assoc] at hW2; exact hW2)) hS2⟩
set_option maxRecDepth 100000 in
set_option maxHeartbeats 16000000 in
theorem varF_any {w : World} {B S : Nat} {v : Value} {bs : List UInt8} (x : FVar) (h : Wr w B S v bs) {K : Nat} (hK : Apart w v S K #[.pointer (some ⟨S, 0, none⟩)] 66) (hx : inI x.label ∧ inI x.size) (hs : bs.length + (varL x).length ≤ 100000000000000) :
    Calls Tryz.prog 81 #[.agg #[.string x.name, .bool x.pub, .int .i64 x.label, .int .i64 x.size], .pointer (some ⟨K, 0, none⟩)] w fun e w' => e = .returned (.tuple #[]) ∧ Wrote w B S v (bs ++ varL x) w' := by
  obtain ⟨nm, vp, vl, vs⟩ := x
  obtain ⟨hx1, hx2⟩ := hx
  simp only at hx1 hx2 ⊢
  replace hs : bs.length + (textL nm ++ truthL vp ++ numsL [vl, vs]).length ≤ 100000000000000 := hs
  repeat rw [List.length_append] at hs
  have e1 : (textL nm).length = 8 + nm.size := obj.text_len nm
  have e2 : (truthL vp).length = 8 := obj.truth_len vp
  have e3 : (numsL [vl, vs]).length = 16 := obj.numsL_len _
  have hW0 := Wr.alloc h (.cells #[.string nm, .bool vp, .int .i64 vl, .int .i64 vs] 149)
  have hS0 := (Since.refl w v S).alloc (.cells #[.string nm, .bool vp, .int .i64 vl, .int .i64 vs] 149)
  have hK0 := hK.alloc (.cells #[.string nm, .bool vp, .int .i64 vl, .int .i64 vs] 149)
  have hN0 := Apart.made h #[.string nm, .bool vp, .int .i64 vl, .int .i64 vs] 149
  have hKc0 := hK0.blk.cell
  have hKf0 := hK0.blk.frozen
  have hKl0 := hK0.blk.lt
  have hNc0 := hN0.blk.cell
  have hNf0 := hN0.blk.frozen
  have hNl0 := hN0.blk.lt
  go_enter Tryz.func81, Tryz.ntmps81
  go_wp2_with (first | (go_at_call 31; refine (text_new nm (by first | rfl | simp) hW0 (by (repeat rw [List.length_append]); omega)).mono ?_; rintro e w1 ⟨rfl, hw1⟩; obtain ⟨v1, hW1, hs1⟩ := Wrote.out hw1; clear hw1; have hS1 := hS0.trans hs1; have hK1 := hK0.since hs1; have hKc1 := hK1.blk.cell; have hKf1 := hK1.blk.frozen; have hKl1 := hK1.blk.lt; have hN1 := hN0.since hs1; have hNc1 := hN1.blk.cell; have hNf1 := hN1.blk.frozen; have hNl1 := hN1.blk.lt; clear hs1) | (go_at_call 82; refine (truth_new vp (by first | rfl | simp) hW1 (by (repeat rw [List.length_append]); omega)).mono ?_; rintro e w2 ⟨rfl, hw2⟩; obtain ⟨v2, hW2, hs2⟩ := Wrote.out hw2; clear hw2; have hS2 := hS1.trans hs2; have hK2 := hK1.since hs2; have hKc2 := hK2.blk.cell; have hKf2 := hK2.blk.frozen; have hKl2 := hK2.blk.lt; have hN2 := hN1.since hs2; have hNc2 := hN2.blk.cell; have hNf2 := hN2.blk.frozen; have hNl2 := hN2.blk.lt; clear hs2) | (go_at_call 27; refine (nums_at [vl, vs] 2 (by first | rfl | simp) rfl hW2 (fun z hz => by simp at hz; rcases hz with rfl | rfl; exact hx1; exact hx2) (by (repeat rw [List.length_append]); omega)).mono ?_; rintro e w3 ⟨rfl, hw3⟩; obtain ⟨v3, hW3, hs3⟩ := Wrote.out hw3; clear hw3; have hS3 := hS2.trans hs3; have hK3 := hK2.since hs3; have hKc3 := hK3.blk.cell; have hKf3 := hK3.blk.frozen; have hKl3 := hK3.blk.lt; have hN3 := hN2.since hs3; have hNc3 := hN3.blk.cell; have hNf3 := hN3.blk.frozen; have hNl3 := hN3.blk.lt; clear hs3))
  go_end0
  exact ⟨rfl, Wrote.mk (by first | exact hW3 | (simpa only [varL, List.append_assoc] using hW3)) hS3⟩
set_option maxRecDepth 100000 in
set_option maxHeartbeats 16000000 in
theorem intF_any {w : World} {B S : Nat} {v : Value} {bs : List UInt8} (x : Int) (h : Wr w B S v bs) {K : Nat} (hK : Apart w v S K #[.pointer (some ⟨S, 0, none⟩)] 66) (hx : inI x) (hs : bs.length + (num8 x).length ≤ 100000000000000) :
    Calls Tryz.prog 86 #[.int .i64 x, .pointer (some ⟨K, 0, none⟩)] w fun e w' => e = .returned (.tuple #[]) ∧ Wrote w B S v (bs ++ num8 x) w' := by
  have e1 : (num8 x).length = 8 := obj.num8_len _
  have hW0 := h
  have hS0 := Since.refl w v S
  have hK0 := hK
  have hKc0 := hK0.blk.cell
  have hKf0 := hK0.blk.frozen
  have hKl0 := hK0.blk.lt
  go_enter Tryz.func86, Tryz.ntmps86
  go_wp2_with (first | (go_at_call 27; refine (num_new x (by first | rfl | simp) hW0 hx (by (repeat rw [List.length_append]); omega)).mono ?_; rintro e w1 ⟨rfl, hw1⟩; obtain ⟨v1, hW1, hs1⟩ := Wrote.out hw1; clear hw1; have hS1 := hS0.trans hs1; have hK1 := hK0.since hs1; have hKc1 := hK1.blk.cell; have hKf1 := hK1.blk.frozen; have hKl1 := hK1.blk.lt; clear hs1))
  go_end0
  exact ⟨rfl, Wrote.mk hW1 hS1⟩
set_option maxRecDepth 100000 in
set_option maxHeartbeats 16000000 in
theorem insF_any {w : World} {B S : Nat} {v : Value} {bs : List UInt8} (x : Ins) (h : Wr w B S v bs) {K : Nat} (hK : Apart w v S K #[.pointer (some ⟨S, 0, none⟩)] 66) (hx : ∀ y ∈ [x.op, x.a, x.b, x.c], inI y) (hs : bs.length + (insL x).length ≤ 100000000000000) :
    Calls Tryz.prog 26 #[.agg #[.int .i64 x.op, .int .i64 x.a, .int .i64 x.b, .int .i64 x.c, .int .i64 x.n], .pointer (some ⟨K, 0, none⟩)] w fun e w' => e = .returned (.tuple #[]) ∧ Wrote w B S v (bs ++ insL x) w' := by
  obtain ⟨i0, i1, i2, i3, i4⟩ := x
  simp only at hx ⊢
  replace hs : bs.length + (numsL [i0, i1, i2, i3] ++ num8 i4).length ≤ 100000000000000 := hs
  repeat rw [List.length_append] at hs
  have e1 : (numsL [i0, i1, i2, i3]).length = 32 := obj.numsL_len _
  have e2 : (num8 i4).length = 8 := obj.num8_len _
  have hW0 := Wr.alloc h (.cells #[.int .i64 i0, .int .i64 i1, .int .i64 i2, .int .i64 i3, .int .i64 i4] 73)
  have hS0 := (Since.refl w v S).alloc (.cells #[.int .i64 i0, .int .i64 i1, .int .i64 i2, .int .i64 i3, .int .i64 i4] 73)
  have hK0 := hK.alloc (.cells #[.int .i64 i0, .int .i64 i1, .int .i64 i2, .int .i64 i3, .int .i64 i4] 73)
  have hN0 := Apart.made h #[.int .i64 i0, .int .i64 i1, .int .i64 i2, .int .i64 i3, .int .i64 i4] 73
  have hKc0 := hK0.blk.cell
  have hKf0 := hK0.blk.frozen
  have hKl0 := hK0.blk.lt
  have hNc0 := hN0.blk.cell
  have hNf0 := hN0.blk.frozen
  have hNl0 := hN0.blk.lt
  go_enter Tryz.func26, Tryz.ntmps26
  go_wp2_with (first | (go_at_call 27; refine (nums_at [i0, i1, i2, i3] 4 (by first | rfl | simp) rfl hW0 hx (by (repeat rw [List.length_append]); omega)).mono ?_; rintro e w1 ⟨rfl, hw1⟩; obtain ⟨v1, hW1, hs1⟩ := Wrote.out hw1; clear hw1; have hS1 := hS0.trans hs1; have hK1 := hK0.since hs1; have hKc1 := hK1.blk.cell; have hKf1 := hK1.blk.frozen; have hKl1 := hK1.blk.lt; have hN1 := hN0.since hs1; have hNc1 := hN1.blk.cell; have hNf1 := hN1.blk.frozen; have hNl1 := hN1.blk.lt; clear hs1) | (go_at_call 28; refine (wide_any i4 hW1 (by (repeat rw [List.length_append]); omega)).mono ?_; rintro e w2 ⟨rfl, hw2⟩; obtain ⟨v2, hW2, hs2⟩ := Wrote.out hw2; clear hw2; have hS2 := hS1.trans hs2; have hK2 := hK1.since hs2; have hKc2 := hK2.blk.cell; have hKf2 := hK2.blk.frozen; have hKl2 := hK2.blk.lt; have hN2 := hN1.since hs2; have hNc2 := hN2.blk.cell; have hNf2 := hN2.blk.frozen; have hNl2 := hN2.blk.lt; clear hs2))
  go_end0
  exact ⟨rfl, Wrote.mk (by first | exact hW2 | (simpa only [insL, List.append_assoc] using hW2)) hS2⟩
set_option maxRecDepth 100000 in
set_option maxHeartbeats 16000000 in
theorem relF_any {w : World} {B S : Nat} {v : Value} {bs : List UInt8} (x : FRel) (h : Wr w B S v bs) {K : Nat} (hK : Apart w v S K #[.pointer (some ⟨S, 0, none⟩)] 66) (hx : ∀ y ∈ [x.at_, x.kind], inI y) (hs : bs.length + (relL x).length ≤ 100000000000000) :
    Calls Tryz.prog 30 #[.agg #[.int .i64 x.at_, .int .i64 x.kind, .string x.modn, .string x.name], .pointer (some ⟨K, 0, none⟩)] w fun e w' => e = .returned (.tuple #[]) ∧ Wrote w B S v (bs ++ relL x) w' := by
  obtain ⟨ra, rk, rm, rn⟩ := x
  simp only at hx ⊢
  replace hs : bs.length + (numsL [ra, rk] ++ textL rm ++ textL rn).length ≤ 100000000000000 := hs
  repeat rw [List.length_append] at hs
  have e1 : (numsL [ra, rk]).length = 16 := obj.numsL_len _
  have e2 : (textL rm).length = 8 + rm.size := obj.text_len rm
  have e3 : (textL rn).length = 8 + rn.size := obj.text_len rn
  have e4 : [rm, rn].flatMap textL = textL rm ++ textL rn := by simp
  have hW0 := Wr.alloc h (.cells #[.int .i64 ra, .int .i64 rk, .string rm, .string rn] 79)
  have hS0 := (Since.refl w v S).alloc (.cells #[.int .i64 ra, .int .i64 rk, .string rm, .string rn] 79)
  have hK0 := hK.alloc (.cells #[.int .i64 ra, .int .i64 rk, .string rm, .string rn] 79)
  have hN0 := Apart.made h #[.int .i64 ra, .int .i64 rk, .string rm, .string rn] 79
  have hKc0 := hK0.blk.cell
  have hKf0 := hK0.blk.frozen
  have hKl0 := hK0.blk.lt
  have hNc0 := hN0.blk.cell
  have hNf0 := hN0.blk.frozen
  have hNl0 := hN0.blk.lt
  go_enter Tryz.func30, Tryz.ntmps30
  go_wp2_with (first | (go_at_call 27; refine (nums_at [ra, rk] 2 (by first | rfl | simp) rfl hW0 hx (by (repeat rw [List.length_append]); omega)).mono ?_; rintro e w1 ⟨rfl, hw1⟩; obtain ⟨v1, hW1, hs1⟩ := Wrote.out hw1; clear hw1; have hS1 := hS0.trans hs1; have hK1 := hK0.since hs1; have hKc1 := hK1.blk.cell; have hKf1 := hK1.blk.frozen; have hKl1 := hK1.blk.lt; have hN1 := hN0.since hs1; have hNc1 := hN1.blk.cell; have hNf1 := hN1.blk.frozen; have hNl1 := hN1.blk.lt; clear hs1) | (go_at_call 31; refine (texts_at [rm, rn] 2 (by first | rfl | simp) rfl hW1 (by rw [e4]; (repeat rw [List.length_append]); omega)).mono ?_; rintro e w2 ⟨rfl, hw2⟩; obtain ⟨v2, hW2, hs2⟩ := Wrote.out hw2; clear hw2; have hS2 := hS1.trans hs2; have hK2 := hK1.since hs2; have hKc2 := hK2.blk.cell; have hKf2 := hK2.blk.frozen; have hKl2 := hK2.blk.lt; have hN2 := hN1.since hs2; have hNc2 := hN2.blk.cell; have hNf2 := hN2.blk.frozen; have hNl2 := hN2.blk.lt; clear hs2))
  go_end0
  exact ⟨rfl, Wrote.mk (by first | exact hW2 | (rw [e4] at hW2; simpa only [relL, List.append_assoc] using hW2)) hS2⟩
end objw
end Go.Proofs.YtpcihajmcejliaaGreatDoor
