/- The walk of the program's writer: a procedure's closure, faces. -/
import Derived.Test.YtpcihajmcejliabGreatDoorObjWA
namespace Go.Proofs.YtpcihajmcejliabGreatDoor
open Go.RowKit
namespace objw
set_option maxRecDepth 100000 in
set_option maxHeartbeats 16000000 in
theorem procF_any {w : World} {B S : Nat} {v : Value} {bs : List UInt8} {w0 : World} (x : FProc) (pa : Option Addr) (pc : Nat) (h : Wr w B S v bs) (hE : Ext w0 w) (hB : w0.heap.size ≤ B) (hpa : AllIn 1 IntIn w0 pa x.params) {K : Nat} (hK : Apart w v S K #[.pointer (some ⟨S, 0, none⟩)] 115) (hx : (∀ q ∈ x.params, inI q) ∧ inI x.writes ∧ inI x.given) (hs : bs.length + (procL x).length ≤ 100000000000000) :
    Calls Tryz.prog 136 #[.agg #[.string x.name, .bool x.pub, .slice pa x.params.length pc, .int .i64 x.writes, .bool x.gives, .int .i64 x.given], .pointer (some ⟨K, 0, none⟩)] w fun e w' => e = .returned (.tuple #[]) ∧ Wrote w B S v (bs ++ procL x) w' := by
  obtain ⟨pn, pp, pl, pw, pg, pv⟩ := x
  obtain ⟨hx1, hx2, hx3⟩ := hx
  simp only at hx1 hx2 hx3 hpa ⊢
  replace hs : bs.length + (textL pn ++ truthL pp ++ num8 pl.length ++ numsL pl ++ num8 pw ++ truthL pg ++ num8 pv).length ≤ 100000000000000 := hs
  repeat rw [List.length_append] at hs
  have e1 : (textL pn).length = 8 + pn.size := obj.text_len pn
  have e2 : (truthL pp).length = 8 := obj.truth_len pp
  have e3 : (num8 (pl.length : Int)).length = 8 := obj.num8_len _
  have e5 : (num8 pw).length = 8 := obj.num8_len _
  have e6 : (truthL pg).length = 8 := obj.truth_len pg
  have e7 : (num8 pv).length = 8 := obj.num8_len _
  obtain ⟨np, hnp⟩ : ∃ n, pl.length = n := ⟨_, rfl⟩
  have e4 : numsL pl = pl.flatMap num8 := rfl
  rw [e4] at hs
  rw [hnp] at hs e3 ⊢
  have HP := Lib.hid (And.intro hpa (And.intro hnp (And.intro hx1 (And.intro hE hB))))
  clear hpa hnp hx1 hE hB
  have hW0 := Wr.alloc h (.cells #[.string pn, .bool pp, .slice pa np pc, .int .i64 pw, .bool pg, .int .i64 pv] 179)
  have hS0 := (Since.refl w v S).alloc (.cells #[.string pn, .bool pp, .slice pa np pc, .int .i64 pw, .bool pg, .int .i64 pv] 179)
  have hK0 := hK.alloc (.cells #[.string pn, .bool pp, .slice pa np pc, .int .i64 pw, .bool pg, .int .i64 pv] 179)
  have hN0 := Apart.made h #[.string pn, .bool pp, .slice pa np pc, .int .i64 pw, .bool pg, .int .i64 pv] 179
  have hKc0 := hK0.blk.cell
  have hKf0 := hK0.blk.frozen
  have hKl0 := hK0.blk.lt
  have hNc0 := hN0.blk.cell
  have hNf0 := hN0.blk.frozen
  have hNl0 := hN0.blk.lt
  go_enter Tryz.func136, Tryz.ntmps136
  go_wp2_with (first | (go_at_call 64; refine (num_new pv (by first | rfl | simp) hW5 hx3 (by (repeat rw [List.length_append]); omega)).mono ?_; rintro e w6 ⟨rfl, hw6⟩; obtain ⟨v6, hW6, hs6⟩ := Wrote.out hw6; clear hw6; have hS6 := hS5.trans hs6; have hK6 := hK5.since hs6; have hKc6 := hK6.blk.cell; have hKf6 := hK6.blk.frozen; have hKl6 := hK6.blk.lt; have hN6 := hN5.since hs6; have hNc6 := hN6.blk.cell; have hNf6 := hN6.blk.frozen; have hNl6 := hN6.blk.lt; clear hs6) | (go_at_call 134; refine (truth_new pg (by first | rfl | simp) hW4 (by (repeat rw [List.length_append]); omega)).mono ?_; rintro e w5 ⟨rfl, hw5⟩; obtain ⟨v5, hW5, hs5⟩ := Wrote.out hw5; clear hw5; have hS5 := hS4.trans hs5; have hK5 := hK4.since hs5; have hKc5 := hK5.blk.cell; have hKf5 := hK5.blk.frozen; have hKl5 := hK5.blk.lt; have hN5 := hN4.since hs5; have hNc5 := hN5.blk.cell; have hNf5 := hN5.blk.frozen; have hNl5 := hN5.blk.lt; clear hs5) | (go_at_call 64; refine (num_new pw (by first | rfl | simp) hW3 hx2 (by (repeat rw [List.length_append]); omega)).mono ?_; rintro e w4 ⟨rfl, hw4⟩; obtain ⟨v4, hW4, hs4⟩ := Wrote.out hw4; clear hw4; have hS4 := hS3.trans hs4; have hK4 := hK3.since hs4; have hKc4 := hK4.blk.cell; have hKf4 := hK4.blk.frozen; have hKl4 := hK4.blk.lt; have hN4 := hN3.since hs4; have hNc4 := hN4.blk.cell; have hNf4 := hN4.blk.frozen; have hNl4 := hN4.blk.lt; clear hs4) | (go_at_call 137; refine (list_int (ext_since HP.out.2.2.2.1 HP.out.2.2.2.2 h hS2) HP.out.2.2.2.2 pa pl np pc HP.out.2.1 HP.out.1 HP.out.2.2.1 hW2 hK2 (by (repeat rw [List.length_append]); omega)).mono ?_; rintro e w3 ⟨rfl, hw3⟩; obtain ⟨v3, hW3, hs3⟩ := Wrote.out hw3; clear hw3; have hS3 := hS2.trans hs3; have hK3 := hK2.since hs3; have hKc3 := hK3.blk.cell; have hKf3 := hK3.blk.frozen; have hKl3 := hK3.blk.lt; have hN3 := hN2.since hs3; have hNc3 := hN3.blk.cell; have hNf3 := hN3.blk.frozen; have hNl3 := hN3.blk.lt; clear hs3) | (go_at_call 134; refine (truth_new pp (by first | rfl | simp) hW1 (by (repeat rw [List.length_append]); omega)).mono ?_; rintro e w2 ⟨rfl, hw2⟩; obtain ⟨v2, hW2, hs2⟩ := Wrote.out hw2; clear hw2; have hS2 := hS1.trans hs2; have hK2 := hK1.since hs2; have hKc2 := hK2.blk.cell; have hKf2 := hK2.blk.frozen; have hKl2 := hK2.blk.lt; have hN2 := hN1.since hs2; have hNc2 := hN2.blk.cell; have hNf2 := hN2.blk.frozen; have hNl2 := hN2.blk.lt; clear hs2) | (go_at_call 68; refine (text_new pn (by first | rfl | simp) hW0 (by (repeat rw [List.length_append]); omega)).mono ?_; rintro e w1 ⟨rfl, hw1⟩; obtain ⟨v1, hW1, hs1⟩ := Wrote.out hw1; clear hw1; have hS1 := hS0.trans hs1; have hK1 := hK0.since hs1; have hKc1 := hK1.blk.cell; have hKf1 := hK1.blk.frozen; have hKl1 := hK1.blk.lt; have hN1 := hN0.since hs1; have hNc1 := hN1.blk.cell; have hNf1 := hN1.blk.frozen; have hNl1 := hN1.blk.lt; clear hs1))
  go_end0
  exact ⟨rfl, Wrote.mk (by first | exact hW6 | (rw [show procL ⟨pn, pp, pl, pw, pg, pv⟩ = textL pn ++ truthL pp ++ num8 np ++ pl.flatMap num8 ++ num8 pw ++ truthL pg ++ num8 pv by rw [← HP.out.2.1]; rfl]; simpa only [List.append_assoc] using hW6)) hS6⟩
set_option maxRecDepth 100000 in
set_option maxHeartbeats 16000000 in
theorem list_proc {w0 w : World} {B S : Nat} {v : Value} {bs : List UInt8} (hE : Ext w0 w) (hB : w0.heap.size ≤ B) (a : Option Addr) (l : List FProc) (n cap : Nat) (hn : l.length = n) (hl : AllIn 6 ProcIn w0 a l) (hx : ∀ y ∈ l, (∀ q ∈ y.params, inI q) ∧ inI y.writes ∧ inI y.given) (h : Wr w B S v bs) {K : Nat} (hK : Apart w v S K #[.pointer (some ⟨S, 0, none⟩)] 115) (hs : bs.length + (8 + (l.flatMap procL).length) ≤ 100000000000000) :
    Calls Tryz.prog 135 #[.pointer (some ⟨S, 0, none⟩), .slice a n cap, .func (.func 136) #[] #[.pointer (some ⟨K, 0, none⟩)]] w fun e w' => e = .returned (.tuple #[]) ∧ Wrote w B S v (bs ++ (num8 n ++ l.flatMap procL)) w' := by
  have HN := Lib.hid hn
  have HL := Lib.hid hl
  have HE := Lib.hid hE
  have HB := Lib.hid hB
  have HX := Lib.hid hx
  have HW := Lib.hid h
  have hnl : n ≤ (l.flatMap procL).length := by
    have := flat_ge procL (fun x => by unfold procL; (repeat rw [List.length_append]); have := textL_pos x.name; omega) l
    omega
  have HC0 := Lib.hid (num_new (n : Int) rfl h (by omega) (by rw [obj.num8_len]; omega))
  have e8 : (num8 (n : Int)).length = 8 := obj.num8_len _
  have HK := Lib.hid hK
  clear hn hl hE hB hx h hK
  go_enter Tryz.func135, Tryz.ntmps135
  go_wp2_with (go_at_call 64; refine HC0.out.mono ?_; rintro e w1 ⟨rfl, hw1⟩)
  obtain ⟨v1, hW1, hS1⟩ := Wrote.out hw1
  clear HC0
  go_loopw [15] (fun s15 wr => ∃ k : Nat, k ≤ n ∧ s15 = .int .i64 k ∧ Wrote w B S v (bs ++ (num8 n ++ (l.take k).flatMap procL)) wr) (fun s15 _ => n - (intOf s15).toNat)
  case atStart => exact ⟨0, Nat.zero_le _, rfl, by simpa using hw1⟩
  case round =>
    obtain ⟨k, hk, rfl, hrel⟩ := hrel
    clear hw1 hW1 hS1
    by_cases hlt : k < n
    · have hkl : k < l.length := by rw [HN.out]; exact hlt
      obtain ⟨v2, hW, hSr⟩ := Wrote.out hrel
      clear hrel
      have hEr := ext_since HE.out HB.out HW.out hSr
      obtain ⟨b, o, rfl, hb, hcv⟩ := HL.out k hkl
      have hb' := Nat.lt_of_lt_of_le hb hEr.size
      obtain ⟨d0, d1, ⟨pa, pc, d2, hpa, -⟩, d3, d4, d5, -⟩ := hcv
      have c0 := (hEr.cell (p := ⟨b, o + k * 6, none⟩) hb id).trans d0
      have c1 := (hEr.cell (p := ⟨b, o + k * 6 + 1, none⟩) hb id).trans d1
      have c2 := (hEr.cell (p := ⟨b, o + k * 6 + 2, none⟩) hb id).trans d2
      have c3 := (hEr.cell (p := ⟨b, o + k * 6 + 3, none⟩) hb id).trans d3
      have c4 := (hEr.cell (p := ⟨b, o + k * 6 + 4, none⟩) hb id).trans d4
      have c5 := (hEr.cell (p := ⟨b, o + k * 6 + 5, none⟩) hb id).trans d5
      have HER := Lib.hid hEr
      have HT := Lib.hid (obj.flat_take procL l k hkl)
      have hfl := obj.flat_len procL l (k + 1)
      rw [HT.out, List.length_append] at hfl
      have hxk := HX.out _ (List.getElem_mem hkl)
      have hki : (k : Int) < (n : Int) := by omega
      clear d0 d1 d2 d3 d4 d5
      generalize l[k] = x at *
      have HSR := Lib.hid hSr
      obtain ⟨b1, hb1⟩ : ∃ y, bs ++ (num8 n ++ (l.take k).flatMap procL) = y := ⟨_, rfl⟩
      have hlen : b1.length + (procL x).length ≤ 100000000000000 := by
        rw [← hb1, List.length_append, List.length_append]; omega
      have HB1 := Lib.hid hb1
      rw [hb1] at hW
      clear hb1 hfl hSr hEr
      obtain ⟨pn, pp, pl, pw, pg, pv⟩ := x
      simp only at c0 c1 c2 c3 c4 c5 hpa hxk
      have hKr := HK.out.since HSR.out
      have HC := Lib.hid (procF_any ⟨pn, pp, pl, pw, pg, pv⟩ pa pc (Wr.alloc hW (.cells #[.string pn, .bool pp, .slice pa pl.length pc, .int .i64 pw, .bool pg, .int .i64 pv] 179)) (HER.out.alloc _) HB.out hpa (hKr.alloc (.cells #[.string pn, .bool pp, .slice pa pl.length pc, .int .i64 pw, .bool pg, .int .i64 pv] 179)) hxk hlen)
      clear hW hKr hlen
      go_wp2_with (go_at_call 136; refine HC.out.mono ?_; rintro e w3 ⟨rfl, hw3⟩)
      obtain ⟨v3, hW3, hS3⟩ := Wrote.out hw3
      have hSf := HSR.out.alloc (.cells #[.string pn, .bool pp, .slice pa pl.length pc, .int .i64 pw, .bool pg, .int .i64 pv] 179)
      go_roundw
      case rel => exact ⟨k + 1, by omega, by go_num, Wrote.mk (by rw [HT.out, ← List.append_assoc, ← List.append_assoc, List.append_assoc bs, HB1.out]; exact hW3) (hSf.trans hS3)⟩
      case measure => simp [intOf]; omega
    · obtain rfl : n = k := by omega
      have e : l.take n = l := List.take_of_length_le (by rw [HN.out]; exact Nat.le_refl _)
      rw [e] at hrel
      go_wp2_with fail
      go_end0
      exact ⟨rfl, hrel⟩
theorem face_parts {w : World} {x : FFace} {a c : Option Addr} {m d : Nat} (h : FaceAt w x (.agg #[.string x.modn, .slice a x.vars.length m, .slice c x.procs.length d])) : AllIn 4 VarIn w a x.vars ∧ AllIn 6 ProcIn w c x.procs := by
  obtain ⟨a', m', c', d', e, h1, h2, -⟩ := h
  simp only [Value.agg.injEq, Array.mk.injEq, List.cons.injEq, Value.slice.injEq, true_and, and_true] at e
  obtain ⟨⟨rfl, -⟩, rfl, -⟩ := e
  exact ⟨h1, h2⟩
set_option maxRecDepth 100000 in
set_option maxHeartbeats 16000000 in
theorem face_any {w0 w : World} {B S : Nat} {v : Value} {bs : List UInt8} (x : FFace) (a : Option Addr) (m : Nat) (c : Option Addr) (d : Nat) (hE : Ext w0 w) (hB : w0.heap.size ≤ B) (hF : FaceAt w0 x (.agg #[.string x.modn, .slice a x.vars.length m, .slice c x.procs.length d])) (hx : FaceNums x) (h : Wr w B S v bs) (hs : bs.length + (faceL x).length ≤ 100000000000000) :
    Calls Tryz.prog 60 #[.pointer (some ⟨S, 0, none⟩), .agg #[.string x.modn, .slice a x.vars.length m, .slice c x.procs.length d]] w fun e w' => e = .returned (.tuple #[]) ∧ Wrote w B S v (bs ++ faceL x) w' := by
  obtain ⟨hv, hp⟩ := face_parts hF
  have HXV := Lib.hid hx.vars
  have HXP := Lib.hid hx.procs
  clear hF hx
  obtain ⟨xn, xv, xp⟩ := x
  simp only at hv hp HXV HXP ⊢
  replace hs : bs.length + (textL xn ++ num8 xv.length ++ xv.flatMap varL ++ num8 xp.length ++ xp.flatMap procL).length ≤ 100000000000000 := hs
  repeat rw [List.length_append] at hs
  have e1 : (textL xn).length = 8 + xn.size := obj.text_len xn
  have e2 : (num8 (xv.length : Int)).length = 8 := obj.num8_len _
  have e3 : (num8 (xp.length : Int)).length = 8 := obj.num8_len _
  obtain ⟨n1, hn1⟩ : ∃ n, xv.length = n := ⟨_, rfl⟩
  obtain ⟨n2, hn2⟩ : ∃ n, xp.length = n := ⟨_, rfl⟩
  have hR : faceL ⟨xn, xv, xp⟩ = textL xn ++ (num8 n1 ++ xv.flatMap varL) ++ (num8 n2 ++ xp.flatMap procL) := by
    rw [← hn1, ← hn2]
    simp only [faceL, List.append_assoc]
  rw [hR]
  rw [hn1, hn2] at hs ⊢
  rw [hn1] at e2
  rw [hn2] at e3
  have HP := Lib.hid (And.intro hv (And.intro hp (And.intro hn1 (And.intro hn2 (And.intro hE hB)))))
  clear hv hp hn1 hn2 hE hB hR
  have hW0 := Wr.alloc (Wr.alloc h (.cells #[.pointer (some ⟨S, 0, none⟩)] 115)) (.cells #[.string xn, .slice a n1 m, .slice c n2 d] 52)
  have hS0 := ((Since.refl w v S).alloc (.cells #[.pointer (some ⟨S, 0, none⟩)] 115)).alloc (.cells #[.string xn, .slice a n1 m, .slice c n2 d] 52)
  have hK0 := (Apart.made h #[.pointer (some ⟨S, 0, none⟩)] 115).alloc (.cells #[.string xn, .slice a n1 m, .slice c n2 d] 52)
  have hN0 := Apart.made (Wr.alloc h (.cells #[.pointer (some ⟨S, 0, none⟩)] 115)) #[.string xn, .slice a n1 m, .slice c n2 d] 52
  rw [show (w.alloc (.cells #[.pointer (some ⟨S, 0, none⟩)] 115)).heap.size = w.heap.size + 1 by simp] at hN0
  have hKc0 := hK0.blk.cell
  have hKf0 := hK0.blk.frozen
  have hKl0 := hK0.blk.lt
  have hNc0 := hN0.blk.cell
  have hNf0 := hN0.blk.frozen
  have hNl0 := hN0.blk.lt
  go_enter Tryz.func60, Tryz.ntmps60
  go_wp2_with (first | (go_at_call 135; refine (list_proc (ext_since HP.out.2.2.2.2.1 HP.out.2.2.2.2.2 h hS2) HP.out.2.2.2.2.2 c xp n2 d HP.out.2.2.2.1 HP.out.2.1 HXP.out hW2 hK2 (by (repeat rw [List.length_append]); omega)).mono ?_; rintro e w3 ⟨rfl, hw3⟩; obtain ⟨v3, hW3, hs3⟩ := Wrote.out hw3; clear hw3; have hS3 := hS2.trans hs3; have hK3 := hK2.since hs3; have hKc3 := hK3.blk.cell; have hKf3 := hK3.blk.frozen; have hKl3 := hK3.blk.lt; have hN3 := hN2.since hs3; have hNc3 := hN3.blk.cell; have hNf3 := hN3.blk.frozen; have hNl3 := hN3.blk.lt; clear hs3) | (go_at_call 132; refine (list_var (ext_since HP.out.2.2.2.2.1 HP.out.2.2.2.2.2 h hS1) HP.out.2.2.2.2.2 a xv n1 m HP.out.2.2.1 HP.out.1 HXV.out hW1 hK1 (by (repeat rw [List.length_append]); omega)).mono ?_; rintro e w2 ⟨rfl, hw2⟩; obtain ⟨v2, hW2, hs2⟩ := Wrote.out hw2; clear hw2; have hS2 := hS1.trans hs2; have hK2 := hK1.since hs2; have hKc2 := hK2.blk.cell; have hKf2 := hK2.blk.frozen; have hKl2 := hK2.blk.lt; have hN2 := hN1.since hs2; have hNc2 := hN2.blk.cell; have hNf2 := hN2.blk.frozen; have hNl2 := hN2.blk.lt; clear hs2) | (go_at_call 68; refine (text_new xn (by first | rfl | simp) hW0 (by (repeat rw [List.length_append]); omega)).mono ?_; rintro e w1 ⟨rfl, hw1⟩; obtain ⟨v1, hW1, hs1⟩ := Wrote.out hw1; clear hw1; have hS1 := hS0.trans hs1; have hK1 := hK0.since hs1; have hKc1 := hK1.blk.cell; have hKf1 := hK1.blk.frozen; have hKl1 := hK1.blk.lt; have hN1 := hN0.since hs1; have hNc1 := hN1.blk.cell; have hNf1 := hN1.blk.frozen; have hNl1 := hN1.blk.lt; clear hs1))
  go_end0
  exact ⟨rfl, Wrote.mk (by first | exact hW3 | (simpa only [List.append_assoc] using hW3)) hS3⟩
set_option maxRecDepth 100000 in
set_option maxHeartbeats 16000000 in
theorem list_face {w0 w : World} {B S : Nat} {v : Value} {bs : List UInt8} (hE : Ext w0 w) (hB : w0.heap.size ≤ B) (a : Option Addr) (l : List FFace) (n cap : Nat) (hn : l.length = n) (hl : AllIn 3 FaceIn w0 a l) (hx : ∀ y ∈ l, FaceNums y) (h : Wr w B S v bs) (hs : bs.length + (8 + (l.flatMap faceL).length) ≤ 100000000000000) :
    Calls Tryz.prog 61 #[.pointer (some ⟨S, 0, none⟩), .slice a n cap, .func (.func 60) #[.pointer (some ⟨S, 0, none⟩)] #[]] w fun e w' => e = .returned (.tuple #[]) ∧ Wrote w B S v (bs ++ (num8 n ++ l.flatMap faceL)) w' := by
  have HN := Lib.hid hn
  have HL := Lib.hid hl
  have HE := Lib.hid hE
  have HB := Lib.hid hB
  have HX := Lib.hid hx
  have HW := Lib.hid h
  have hnl : n ≤ (l.flatMap faceL).length := by
    have := flat_ge faceL (fun x => by unfold faceL; (repeat rw [List.length_append]); have := textL_pos x.modn; omega) l
    omega
  have HC0 := Lib.hid (num_new (n : Int) rfl h (by omega) (by rw [obj.num8_len]; omega))
  have e8 : (num8 (n : Int)).length = 8 := obj.num8_len _
  clear hn hl hE hB hx h
  go_enter Tryz.func61, Tryz.ntmps61
  go_wp2_with (go_at_call 64; refine HC0.out.mono ?_; rintro e w1 ⟨rfl, hw1⟩)
  obtain ⟨v1, hW1, hS1⟩ := Wrote.out hw1
  clear HC0
  go_loopw [15] (fun s15 wr => ∃ k : Nat, k ≤ n ∧ s15 = .int .i64 k ∧ Wrote w B S v (bs ++ (num8 n ++ (l.take k).flatMap faceL)) wr) (fun s15 _ => n - (intOf s15).toNat)
  case atStart => exact ⟨0, Nat.zero_le _, rfl, by simpa using hw1⟩
  case round =>
    obtain ⟨k, hk, rfl, hrel⟩ := hrel
    clear hw1 hW1 hS1
    by_cases hlt : k < n
    · have hkl : k < l.length := by rw [HN.out]; exact hlt
      obtain ⟨v2, hW, hSr⟩ := Wrote.out hrel
      clear hrel
      have hEr := ext_since HE.out HB.out HW.out hSr
      obtain ⟨b, o, rfl, hb, hcv⟩ := HL.out k hkl
      have hb' := Nat.lt_of_lt_of_le hb hEr.size
      obtain ⟨fa, fm, fc, fd, d0, d1, d2, hF⟩ := hcv
      have c0 := (hEr.cell (p := ⟨b, o + k * 3, none⟩) hb id).trans d0
      have c1 := (hEr.cell (p := ⟨b, o + k * 3 + 1, none⟩) hb id).trans d1
      have c2 := (hEr.cell (p := ⟨b, o + k * 3 + 2, none⟩) hb id).trans d2
      have HER := Lib.hid hEr
      have HT := Lib.hid (obj.flat_take faceL l k hkl)
      have hfl := obj.flat_len faceL l (k + 1)
      rw [HT.out, List.length_append] at hfl
      have hxk := HX.out _ (List.getElem_mem hkl)
      have hki : (k : Int) < (n : Int) := by omega
      clear d0 d1 d2
      generalize l[k] = x at *
      have HSR := Lib.hid hSr
      obtain ⟨b1, hb1⟩ : ∃ y, bs ++ (num8 n ++ (l.take k).flatMap faceL) = y := ⟨_, rfl⟩
      have hlen : b1.length + (faceL x).length ≤ 100000000000000 := by
        rw [← hb1, List.length_append, List.length_append]; omega
      have HB1 := Lib.hid hb1
      rw [hb1] at hW
      clear hb1 hfl hSr hEr
      obtain ⟨xn, xv, xp⟩ := x
      simp only at c0 c1 c2 hF
      have HC := Lib.hid (face_any ⟨xn, xv, xp⟩ fa fm fc fd (HER.out.alloc _) HB.out hF hxk (Wr.alloc hW (.cells #[.string xn, .slice fa xv.length fm, .slice fc xp.length fd] 52)) hlen)
      clear hW hlen
      go_wp2_with (go_at_call 60; refine HC.out.mono ?_; rintro e w3 ⟨rfl, hw3⟩)
      obtain ⟨v3, hW3, hS3⟩ := Wrote.out hw3
      have hSf := HSR.out.alloc (.cells #[.string xn, .slice fa xv.length fm, .slice fc xp.length fd] 52)
      go_roundw
      case rel => exact ⟨k + 1, by omega, by go_num, Wrote.mk (by rw [HT.out, ← List.append_assoc, ← List.append_assoc, List.append_assoc bs, HB1.out]; exact hW3) (hSf.trans hS3)⟩
      case measure => simp [intOf]; omega
    · obtain rfl : n = k := by omega
      have e : l.take n = l := List.take_of_length_le (by rw [HN.out]; exact Nat.le_refl _)
      rw [e] at hrel
      go_wp2_with fail
      go_end0
      exact ⟨rfl, hrel⟩
end objw
end Go.Proofs.YtpcihajmcejliabGreatDoor
