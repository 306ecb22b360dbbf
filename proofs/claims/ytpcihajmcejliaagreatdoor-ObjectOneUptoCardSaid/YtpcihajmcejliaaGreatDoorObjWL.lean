/- The walk of the program's writer: its lists. -/
import Derived.Test.YtpcihajmcejliaaGreatDoorObjWC
namespace Go.Proofs.YtpcihajmcejliaaGreatDoor
open Go.RowKit
namespace objw
theorem flat_ge {α : Type} (f : α → List UInt8) (hf : ∀ x, 1 ≤ (f x).length) (l : List α) : l.length ≤ (l.flatMap f).length := by
  induction l with
  | nil => exact Nat.le_refl _
  | cons x r ih => rw [List.flatMap_cons, List.length_append, List.length_cons]; have := hf x; omega
theorem num8_pos (n : Int) : 1 ≤ (num8 n).length := by rw [obj.num8_len]; decide
theorem textL_pos (n : ByteArray) : 1 ≤ (textL n).length := by rw [obj.text_len]; omega
set_option maxRecDepth 100000 in
set_option maxHeartbeats 16000000 in
theorem list_var {w0 w : World} {B S : Nat} {v : Value} {bs : List UInt8} (hE : Ext w0 w) (hB : w0.heap.size ≤ B) (a : Option Addr) (l : List FVar) (n cap : Nat) (hn : l.length = n) (hl : AllIn 4 VarIn w0 a l) (hx : ∀ y ∈ l, inI y.label ∧ inI y.size) (h : Wr w B S v bs) {K : Nat} (hK : Apart w v S K #[.pointer (some ⟨S, 0, none⟩)] 66) (hs : bs.length + (8 + (l.flatMap varL).length) ≤ 100000000000000) :
    Calls Tryz.prog 80 #[.pointer (some ⟨S, 0, none⟩), .slice a n cap, .func (.func 81) #[] #[.pointer (some ⟨K, 0, none⟩)]] w fun e w' => e = .returned (.tuple #[]) ∧ Wrote w B S v (bs ++ (num8 n ++ l.flatMap varL)) w' := by
  have HN := Lib.hid hn
  have HL := Lib.hid hl
  have HE := Lib.hid hE
  have HB := Lib.hid hB
  have HX := Lib.hid hx
  have HW := Lib.hid h
  have hnl : n ≤ (l.flatMap varL).length := by
    have := flat_ge varL (fun x => by unfold varL; (repeat rw [List.length_append]); have := textL_pos x.name; omega) l
    omega
  have HC0 := Lib.hid (num_new (n : Int) rfl h (by omega) (by rw [obj.num8_len]; omega))
  have e8 : (num8 (n : Int)).length = 8 := obj.num8_len _
  have HK := Lib.hid hK
  clear hn hl hE hB hx h hK
  go_enter Tryz.func80, Tryz.ntmps80
  go_wp2_with (go_at_call 27; refine HC0.out.mono ?_; rintro e w1 ⟨rfl, hw1⟩)
  obtain ⟨v1, hW1, hS1⟩ := Wrote.out hw1
  clear HC0
  go_loopw [15] (fun s15 wr => ∃ k : Nat, k ≤ n ∧ s15 = .int .i64 k ∧ Wrote w B S v (bs ++ (num8 n ++ (l.take k).flatMap varL)) wr) (fun s15 _ => n - (intOf s15).toNat)
  case atStart => exact ⟨0, Nat.zero_le _, rfl, by simpa using hw1⟩
  case round =>
    obtain ⟨k, hk, rfl, hrel⟩ := hrel
    clear hw1 hW1 hS1
    by_cases hlt : k < n
    · have hkl : k < l.length := by rw [HN.out]; exact hlt
      obtain ⟨v2, hW, hSr⟩ := Wrote.out hrel
      clear hrel
      have hEr := ext_since HE.out HB.out HW.out hSr
      obtain ⟨b, o, rfl, hb, hcv⟩ := HL.out k hkl
      have hb' := Nat.lt_of_lt_of_le hb hEr.size
      obtain ⟨c0, c1, c2, c3, -⟩ := VarIn.ext hEr hb hcv
      have HT := Lib.hid (obj.flat_take varL l k hkl)
      have hfl := obj.flat_len varL l (k + 1)
      rw [HT.out, List.length_append] at hfl
      have hxk := HX.out _ (List.getElem_mem hkl)
      have hki : (k : Int) < (n : Int) := by omega
      clear hcv
      generalize l[k] = x at *
      have HSR := Lib.hid hSr
      obtain ⟨b1, hb1⟩ : ∃ y, bs ++ (num8 n ++ (l.take k).flatMap varL) = y := ⟨_, rfl⟩
      have hlen : b1.length + (varL x).length ≤ 100000000000000 := by
        rw [← hb1, List.length_append, List.length_append]; omega
      have HB1 := Lib.hid hb1
      rw [hb1] at hW
      clear hb1 hfl hSr hEr
      obtain ⟨nm, vp, vl, vs⟩ := x
      simp only at c0 c1 c2 c3 hxk
      have hKr := HK.out.since HSR.out
      have HC := Lib.hid (varF_any ⟨nm, vp, vl, vs⟩ (Wr.alloc hW (.cells #[.string nm, .bool vp, .int .i64 vl, .int .i64 vs] 149)) (hKr.alloc (.cells #[.string nm, .bool vp, .int .i64 vl, .int .i64 vs] 149)) hxk hlen)
      clear hW hKr hlen
      go_wp2_with (go_at_call 81; refine HC.out.mono ?_; rintro e w3 ⟨rfl, hw3⟩)
      obtain ⟨v3, hW3, hS3⟩ := Wrote.out hw3
      have hSf := HSR.out.alloc (.cells #[.string nm, .bool vp, .int .i64 vl, .int .i64 vs] 149)
      go_roundw
      case rel => exact ⟨k + 1, by omega, by go_num, Wrote.mk (by rw [HT.out, ← List.append_assoc, ← List.append_assoc, List.append_assoc bs, HB1.out]; exact hW3) (hSf.trans hS3)⟩
      case measure => simp [intOf]; omega
    · obtain rfl : n = k := by omega
      have e : l.take n = l := List.take_of_length_le (by rw [HN.out]; exact Nat.le_refl _)
      rw [e] at hrel
      go_wp2_with fail
      go_end0
      exact ⟨rfl, hrel⟩
set_option maxRecDepth 100000 in
set_option maxHeartbeats 16000000 in
theorem list_int {w0 w : World} {B S : Nat} {v : Value} {bs : List UInt8} (hE : Ext w0 w) (hB : w0.heap.size ≤ B) (a : Option Addr) (l : List Int) (n cap : Nat) (hn : l.length = n) (hl : AllIn 1 IntIn w0 a l) (hx : ∀ y ∈ l, inI y) (h : Wr w B S v bs) {K : Nat} (hK : Apart w v S K #[.pointer (some ⟨S, 0, none⟩)] 66) (hs : bs.length + (8 + (l.flatMap num8).length) ≤ 100000000000000) :
    Calls Tryz.prog 85 #[.pointer (some ⟨S, 0, none⟩), .slice a n cap, .func (.func 86) #[] #[.pointer (some ⟨K, 0, none⟩)]] w fun e w' => e = .returned (.tuple #[]) ∧ Wrote w B S v (bs ++ (num8 n ++ l.flatMap num8)) w' := by
  have HN := Lib.hid hn
  have HL := Lib.hid hl
  have HE := Lib.hid hE
  have HB := Lib.hid hB
  have HX := Lib.hid hx
  have HW := Lib.hid h
  have hnl : n ≤ (l.flatMap num8).length := by
    have := flat_ge num8 num8_pos l
    omega
  have HC0 := Lib.hid (num_new (n : Int) rfl h (by omega) (by rw [obj.num8_len]; omega))
  have e8 : (num8 (n : Int)).length = 8 := obj.num8_len _
  have HK := Lib.hid hK
  clear hn hl hE hB hx h hK
  go_enter Tryz.func85, Tryz.ntmps85
  go_wp2_with (go_at_call 27; refine HC0.out.mono ?_; rintro e w1 ⟨rfl, hw1⟩)
  obtain ⟨v1, hW1, hS1⟩ := Wrote.out hw1
  clear HC0
  go_loopw [15] (fun s15 wr => ∃ k : Nat, k ≤ n ∧ s15 = .int .i64 k ∧ Wrote w B S v (bs ++ (num8 n ++ (l.take k).flatMap num8)) wr) (fun s15 _ => n - (intOf s15).toNat)
  case atStart => exact ⟨0, Nat.zero_le _, rfl, by simpa using hw1⟩
  case round =>
    obtain ⟨k, hk, rfl, hrel⟩ := hrel
    clear hw1 hW1 hS1
    by_cases hlt : k < n
    · have hkl : k < l.length := by rw [HN.out]; exact hlt
      obtain ⟨v2, hW, hSr⟩ := Wrote.out hrel
      clear hrel
      have hEr := ext_since HE.out HB.out HW.out hSr
      obtain ⟨b, o, rfl, hb, hcv⟩ := HL.out k hkl
      have hb' := Nat.lt_of_lt_of_le hb hEr.size
      have c0 := IntIn.ext hEr hb hcv
      have HT := Lib.hid (obj.flat_take num8 l k hkl)
      have hfl := obj.flat_len num8 l (k + 1)
      rw [HT.out, List.length_append] at hfl
      have hxk := HX.out _ (List.getElem_mem hkl)
      have hki : (k : Int) < (n : Int) := by omega
      clear hcv
      generalize l[k] = x at *
      have HSR := Lib.hid hSr
      obtain ⟨b1, hb1⟩ : ∃ y, bs ++ (num8 n ++ (l.take k).flatMap num8) = y := ⟨_, rfl⟩
      have hlen : b1.length + (num8 x).length ≤ 100000000000000 := by
        rw [← hb1, List.length_append, List.length_append]; omega
      have HB1 := Lib.hid hb1
      rw [hb1] at hW
      clear hb1 hfl hSr hEr
      unfold IntIn at c0
      rw [Nat.mul_one] at c0
      have hKr := HK.out.since HSR.out
      have HC := Lib.hid (intF_any x hW hKr hxk hlen)
      clear hW hKr hlen
      go_wp2_with (go_at_call 86; refine HC.out.mono ?_; rintro e w3 ⟨rfl, hw3⟩)
      obtain ⟨v3, hW3, hS3⟩ := Wrote.out hw3
      have hSf := HSR.out
      go_roundw
      case rel => exact ⟨k + 1, by omega, by go_num, Wrote.mk (by rw [HT.out, ← List.append_assoc, ← List.append_assoc, List.append_assoc bs, HB1.out]; exact hW3) (hSf.trans hS3)⟩
      case measure => simp [intOf]; omega
    · obtain rfl : n = k := by omega
      have e : l.take n = l := List.take_of_length_le (by rw [HN.out]; exact Nat.le_refl _)
      rw [e] at hrel
      go_wp2_with fail
      go_end0
      exact ⟨rfl, hrel⟩
set_option maxRecDepth 100000 in
set_option maxHeartbeats 16000000 in
theorem list_ins {w0 w : World} {B S : Nat} {v : Value} {bs : List UInt8} (hE : Ext w0 w) (hB : w0.heap.size ≤ B) (a : Option Addr) (l : List Ins) (n cap : Nat) (hn : l.length = n) (hl : AllIn 5 InsIn5 w0 a l) (hx : ∀ y ∈ l, ∀ z ∈ [y.op, y.a, y.b, y.c], inI z) (h : Wr w B S v bs) {K : Nat} (hK : Apart w v S K #[.pointer (some ⟨S, 0, none⟩)] 66) (hs : bs.length + (8 + (l.flatMap insL).length) ≤ 100000000000000) :
    Calls Tryz.prog 25 #[.pointer (some ⟨S, 0, none⟩), .slice a n cap, .func (.func 26) #[] #[.pointer (some ⟨K, 0, none⟩)]] w fun e w' => e = .returned (.tuple #[]) ∧ Wrote w B S v (bs ++ (num8 n ++ l.flatMap insL)) w' := by
  have HN := Lib.hid hn
  have HL := Lib.hid hl
  have HE := Lib.hid hE
  have HB := Lib.hid hB
  have HX := Lib.hid hx
  have HW := Lib.hid h
  have hnl : n ≤ (l.flatMap insL).length := by
    have := flat_ge insL (fun x => by unfold insL; (repeat rw [List.length_append]); have := num8_pos x.n; omega) l
    omega
  have HC0 := Lib.hid (num_new (n : Int) rfl h (by omega) (by rw [obj.num8_len]; omega))
  have e8 : (num8 (n : Int)).length = 8 := obj.num8_len _
  have HK := Lib.hid hK
  clear hn hl hE hB hx h hK
  go_enter Tryz.func25, Tryz.ntmps25
  go_wp2_with (go_at_call 27; refine HC0.out.mono ?_; rintro e w1 ⟨rfl, hw1⟩)
  obtain ⟨v1, hW1, hS1⟩ := Wrote.out hw1
  clear HC0
  go_loopw [15] (fun s15 wr => ∃ k : Nat, k ≤ n ∧ s15 = .int .i64 k ∧ Wrote w B S v (bs ++ (num8 n ++ (l.take k).flatMap insL)) wr) (fun s15 _ => n - (intOf s15).toNat)
  case atStart => exact ⟨0, Nat.zero_le _, rfl, by simpa using hw1⟩
  case round =>
    obtain ⟨k, hk, rfl, hrel⟩ := hrel
    clear hw1 hW1 hS1
    by_cases hlt : k < n
    · have hkl : k < l.length := by rw [HN.out]; exact hlt
      obtain ⟨v2, hW, hSr⟩ := Wrote.out hrel
      clear hrel
      have hEr := ext_since HE.out HB.out HW.out hSr
      obtain ⟨b, o, rfl, hb, hcv⟩ := HL.out k hkl
      have hb' := Nat.lt_of_lt_of_le hb hEr.size
      obtain ⟨c0, c1, c2, c3, c4⟩ := InsIn5.ext hEr hb hcv
      have HT := Lib.hid (obj.flat_take insL l k hkl)
      have hfl := obj.flat_len insL l (k + 1)
      rw [HT.out, List.length_append] at hfl
      have hxk := HX.out _ (List.getElem_mem hkl)
      have hki : (k : Int) < (n : Int) := by omega
      clear hcv
      generalize l[k] = x at *
      have HSR := Lib.hid hSr
      obtain ⟨b1, hb1⟩ : ∃ y, bs ++ (num8 n ++ (l.take k).flatMap insL) = y := ⟨_, rfl⟩
      have hlen : b1.length + (insL x).length ≤ 100000000000000 := by
        rw [← hb1, List.length_append, List.length_append]; omega
      have HB1 := Lib.hid hb1
      rw [hb1] at hW
      clear hb1 hfl hSr hEr
      obtain ⟨i0, i1, i2, i3, i4⟩ := x
      simp only at c0 c1 c2 c3 c4 hxk
      have hKr := HK.out.since HSR.out
      have HC := Lib.hid (insF_any ⟨i0, i1, i2, i3, i4⟩ (Wr.alloc hW (.cells #[.int .i64 i0, .int .i64 i1, .int .i64 i2, .int .i64 i3, .int .i64 i4] 73)) (hKr.alloc (.cells #[.int .i64 i0, .int .i64 i1, .int .i64 i2, .int .i64 i3, .int .i64 i4] 73)) hxk hlen)
      clear hW hKr hlen
      go_wp2_with (go_at_call 26; refine HC.out.mono ?_; rintro e w3 ⟨rfl, hw3⟩)
      obtain ⟨v3, hW3, hS3⟩ := Wrote.out hw3
      have hSf := HSR.out.alloc (.cells #[.int .i64 i0, .int .i64 i1, .int .i64 i2, .int .i64 i3, .int .i64 i4] 73)
      go_roundw
      case rel => exact ⟨k + 1, by omega, by go_num, Wrote.mk (by rw [HT.out, ← List.append_assoc, ← List.append_assoc, List.append_assoc bs, HB1.out]; exact hW3) (hSf.trans hS3)⟩
      case measure => simp [intOf]; omega
    · obtain rfl : n = k := by omega
      have e : l.take n = l := List.take_of_length_le (by rw [HN.out]; exact Nat.le_refl _)
      rw [e] at hrel
      go_wp2_with fail
      go_end0
      exact ⟨rfl, hrel⟩
set_option maxRecDepth 100000 in
set_option maxHeartbeats 16000000 in
theorem list_rel {w0 w : World} {B S : Nat} {v : Value} {bs : List UInt8} (hE : Ext w0 w) (hB : w0.heap.size ≤ B) (a : Option Addr) (l : List FRel) (n cap : Nat) (hn : l.length = n) (hl : AllIn 4 RelIn w0 a l) (hx : ∀ y ∈ l, ∀ z ∈ [y.at_, y.kind], inI z) (h : Wr w B S v bs) {K : Nat} (hK : Apart w v S K #[.pointer (some ⟨S, 0, none⟩)] 66) (hs : bs.length + (8 + (l.flatMap relL).length) ≤ 100000000000000) :
    Calls Tryz.prog 29 #[.pointer (some ⟨S, 0, none⟩), .slice a n cap, .func (.func 30) #[] #[.pointer (some ⟨K, 0, none⟩)]] w fun e w' => e = .returned (.tuple #[]) ∧ Wrote w B S v (bs ++ (num8 n ++ l.flatMap relL)) w' := by
  have HN := Lib.hid hn
  have HL := Lib.hid hl
  have HE := Lib.hid hE
  have HB := Lib.hid hB
  have HX := Lib.hid hx
  have HW := Lib.hid h
  have hnl : n ≤ (l.flatMap relL).length := by
    have := flat_ge relL (fun x => by unfold relL; (repeat rw [List.length_append]); have := textL_pos x.name; omega) l
    omega
  have HC0 := Lib.hid (num_new (n : Int) rfl h (by omega) (by rw [obj.num8_len]; omega))
  have e8 : (num8 (n : Int)).length = 8 := obj.num8_len _
  have HK := Lib.hid hK
  clear hn hl hE hB hx h hK
  go_enter Tryz.func29, Tryz.ntmps29
  go_wp2_with (go_at_call 27; refine HC0.out.mono ?_; rintro e w1 ⟨rfl, hw1⟩)
  obtain ⟨v1, hW1, hS1⟩ := Wrote.out hw1
  clear HC0
  go_loopw [15] (fun s15 wr => ∃ k : Nat, k ≤ n ∧ s15 = .int .i64 k ∧ Wrote w B S v (bs ++ (num8 n ++ (l.take k).flatMap relL)) wr) (fun s15 _ => n - (intOf s15).toNat)
  case atStart => exact ⟨0, Nat.zero_le _, rfl, by simpa using hw1⟩
  case round =>
    obtain ⟨k, hk, rfl, hrel⟩ := hrel
    clear hw1 hW1 hS1
    by_cases hlt : k < n
    · have hkl : k < l.length := by rw [HN.out]; exact hlt
      obtain ⟨v2, hW, hSr⟩ := Wrote.out hrel
      clear hrel
      have hEr := ext_since HE.out HB.out HW.out hSr
      obtain ⟨b, o, rfl, hb, hcv⟩ := HL.out k hkl
      have hb' := Nat.lt_of_lt_of_le hb hEr.size
      obtain ⟨c0, c1, c2, c3⟩ := RelIn.ext hEr hb hcv
      have HT := Lib.hid (obj.flat_take relL l k hkl)
      have hfl := obj.flat_len relL l (k + 1)
      rw [HT.out, List.length_append] at hfl
      have hxk := HX.out _ (List.getElem_mem hkl)
      have hki : (k : Int) < (n : Int) := by omega
      clear hcv
      generalize l[k] = x at *
      have HSR := Lib.hid hSr
      obtain ⟨b1, hb1⟩ : ∃ y, bs ++ (num8 n ++ (l.take k).flatMap relL) = y := ⟨_, rfl⟩
      have hlen : b1.length + (relL x).length ≤ 100000000000000 := by
        rw [← hb1, List.length_append, List.length_append]; omega
      have HB1 := Lib.hid hb1
      rw [hb1] at hW
      clear hb1 hfl hSr hEr
      obtain ⟨ra, rk, rm, rn⟩ := x
      simp only at c0 c1 c2 c3 hxk
      have hKr := HK.out.since HSR.out
      have HC := Lib.hid (relF_any ⟨ra, rk, rm, rn⟩ (Wr.alloc hW (.cells #[.int .i64 ra, .int .i64 rk, .string rm, .string rn] 79)) (hKr.alloc (.cells #[.int .i64 ra, .int .i64 rk, .string rm, .string rn] 79)) hxk hlen)
      clear hW hKr hlen
      go_wp2_with (go_at_call 30; refine HC.out.mono ?_; rintro e w3 ⟨rfl, hw3⟩)
      obtain ⟨v3, hW3, hS3⟩ := Wrote.out hw3
      have hSf := HSR.out.alloc (.cells #[.int .i64 ra, .int .i64 rk, .string rm, .string rn] 79)
      go_roundw
      case rel => exact ⟨k + 1, by omega, by go_num, Wrote.mk (by rw [HT.out, ← List.append_assoc, ← List.append_assoc, List.append_assoc bs, HB1.out]; exact hW3) (hSf.trans hS3)⟩
      case measure => simp [intOf]; omega
    · obtain rfl : n = k := by omega
      have e : l.take n = l := List.take_of_length_le (by rw [HN.out]; exact Nat.le_refl _)
      rw [e] at hrel
      go_wp2_with fail
      go_end0
      exact ⟨rfl, hrel⟩
set_option maxRecDepth 100000 in
set_option maxHeartbeats 16000000 in
theorem list_plc {w0 w : World} {B S : Nat} {v : Value} {bs : List UInt8} (hE : Ext w0 w) (hB : w0.heap.size ≤ B) (a : Option Addr) (l : List FPlc) (n cap : Nat) (hn : l.length = n) (hl : AllIn 2 PlcIn w0 a l) (hx : ∀ y ∈ l, inI y.at_) (h : Wr w B S v bs) (hs : bs.length + (8 + (l.flatMap plcL).length) ≤ 100000000000000) :
    Calls Tryz.prog 32 #[.pointer (some ⟨S, 0, none⟩), .slice a n cap, .func (.func 33) #[.pointer (some ⟨S, 0, none⟩)] #[]] w fun e w' => e = .returned (.tuple #[]) ∧ Wrote w B S v (bs ++ (num8 n ++ l.flatMap plcL)) w' := by
  have HN := Lib.hid hn
  have HL := Lib.hid hl
  have HE := Lib.hid hE
  have HB := Lib.hid hB
  have HX := Lib.hid hx
  have HW := Lib.hid h
  have hnl : n ≤ (l.flatMap plcL).length := by
    have := flat_ge plcL (fun x => by unfold plcL; (repeat rw [List.length_append]); have := textL_pos x.name; omega) l
    omega
  have HC0 := Lib.hid (num_new (n : Int) rfl h (by omega) (by rw [obj.num8_len]; omega))
  have e8 : (num8 (n : Int)).length = 8 := obj.num8_len _
  clear hn hl hE hB hx h
  go_enter Tryz.func32, Tryz.ntmps32
  go_wp2_with (go_at_call 27; refine HC0.out.mono ?_; rintro e w1 ⟨rfl, hw1⟩)
  obtain ⟨v1, hW1, hS1⟩ := Wrote.out hw1
  clear HC0
  go_loopw [15] (fun s15 wr => ∃ k : Nat, k ≤ n ∧ s15 = .int .i64 k ∧ Wrote w B S v (bs ++ (num8 n ++ (l.take k).flatMap plcL)) wr) (fun s15 _ => n - (intOf s15).toNat)
  case atStart => exact ⟨0, Nat.zero_le _, rfl, by simpa using hw1⟩
  case round =>
    obtain ⟨k, hk, rfl, hrel⟩ := hrel
    clear hw1 hW1 hS1
    by_cases hlt : k < n
    · have hkl : k < l.length := by rw [HN.out]; exact hlt
      obtain ⟨v2, hW, hSr⟩ := Wrote.out hrel
      clear hrel
      have hEr := ext_since HE.out HB.out HW.out hSr
      obtain ⟨b, o, rfl, hb, hcv⟩ := HL.out k hkl
      have hb' := Nat.lt_of_lt_of_le hb hEr.size
      obtain ⟨c0, c1, -, -⟩ := PlcIn.ext hEr hb hcv
      have HT := Lib.hid (obj.flat_take plcL l k hkl)
      have hfl := obj.flat_len plcL l (k + 1)
      rw [HT.out, List.length_append] at hfl
      have hxk := HX.out _ (List.getElem_mem hkl)
      have hki : (k : Int) < (n : Int) := by omega
      clear hcv
      generalize l[k] = x at *
      have HSR := Lib.hid hSr
      obtain ⟨b1, hb1⟩ : ∃ y, bs ++ (num8 n ++ (l.take k).flatMap plcL) = y := ⟨_, rfl⟩
      have hlen : b1.length + (plcL x).length ≤ 100000000000000 := by
        rw [← hb1, List.length_append, List.length_append]; omega
      have HB1 := Lib.hid hb1
      rw [hb1] at hW
      clear hb1 hfl hSr hEr
      obtain ⟨nm, va⟩ := x
      simp only at c0 c1 hxk
      have HC := Lib.hid (place_any ⟨nm, va⟩ (Wr.alloc hW (.cells #[.string nm, .int .i64 va] 84)) hxk hlen)
      clear hW hlen
      go_wp2_with (go_at_call 33; refine HC.out.mono ?_; rintro e w3 ⟨rfl, hw3⟩)
      obtain ⟨v3, hW3, hS3⟩ := Wrote.out hw3
      have hSf := HSR.out.alloc (.cells #[.string nm, .int .i64 va] 84)
      go_roundw
      case rel => exact ⟨k + 1, by omega, by go_num, Wrote.mk (by rw [HT.out, ← List.append_assoc, ← List.append_assoc, List.append_assoc bs, HB1.out]; exact hW3) (hSf.trans hS3)⟩
      case measure => simp [intOf]; omega
    · obtain rfl : n = k := by omega
      have e : l.take n = l := List.take_of_length_le (by rw [HN.out]; exact Nat.le_refl _)
      rw [e] at hrel
      go_wp2_with fail
      go_end0
      exact ⟨rfl, hrel⟩
end objw
end Go.Proofs.YtpcihajmcejliaaGreatDoor
