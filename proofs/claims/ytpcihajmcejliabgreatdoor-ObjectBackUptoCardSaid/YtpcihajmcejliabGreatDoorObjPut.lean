/- The walk of the program's Put. -/
import Derived.Test.YtpcihajmcejliabGreatDoorObjWF
import Derived.Deep.Onto
namespace Go.Proofs.YtpcihajmcejliabGreatDoor
open Go.RowKit
namespace objw
theorem plc_nums {w : World} {a : Option Addr} {l : List FPlc} (h : AllIn 2 PlcIn w a l) : ∀ y ∈ l, inI y.at_ := by
  intro y hy
  obtain ⟨j, hj, rfl⟩ := List.getElem_of_mem hy
  obtain ⟨b, o, -, -, -, -, -, h4⟩ := h j hj
  exact h4
theorem face_all {a : Option Addr} {l : List FFace} {w w' : World} (h : AllIn 3 FaceIn w a l) (hE : Ext w w') : AllIn 3 FaceIn w' a l := h.mono hE.size fun _ _ _ hb h => FaceIn.ext hE hb h
theorem ins_all {a : Option Addr} {l : List Ins} {w w' : World} (h : AllIn 5 InsIn5 w a l) (hE : Ext w w') : AllIn 5 InsIn5 w' a l := h.mono hE.size fun _ _ _ hb h => InsIn5.ext hE hb h
theorem rel_all {a : Option Addr} {l : List FRel} {w w' : World} (h : AllIn 4 RelIn w a l) (hE : Ext w w') : AllIn 4 RelIn w' a l := h.mono hE.size fun _ _ _ hb h => RelIn.ext hE hb h
/-- what Put makes of an object -/
def PutPost (x : FObj) (M : Bool) (w : World) (e : Ending) (w' : World) : Prop :=
  Ext w w' ∧ ((M = false ∧ e = .returned (.tuple #[.slice none 0 0, .int .i64 2])) ∨ (M = true ∧ ∃ r, e = .returned (.tuple #[r, .int .i64 0]) ∧ w'.ownsRow w.heap.size 5 1 r (objL x).length (bytesV (objL x))))
set_option maxRecDepth 100000 in
set_option maxHeartbeats 16000000 in
theorem put_any (x : FObj) (v : Value) (w : World) (M : Bool) (hx : ObjAt w x v) (hnum : ObjNums x) (hs : (objL x).length ≤ 100000000000000)
    (hM : ∀ u, Ext w u → Calls Tryz.prog 59 #[v] u fun e w' => e = .returned (.bool M) ∧ Ext u w') :
    Calls Tryz.prog 22 #[v] w (PutPost x M w) := by
  obtain ⟨fa, am, fc, cm, ia, ic, ca, cc, ra, rc, pa, pc, la, lc, ha, hc, rfl, hF0, h1, h2, h3, h4, h5, h6⟩ := hx.ex
  clear hx
  have hx1 := hnum.face
  have hx2 := hnum.imports
  have hx3 : ∀ y ∈ x.code, ∀ z ∈ [y.op, y.a, y.b, y.c], inI z := fun y hy => (hnum.code y hy).1
  have hx4 : ∀ y ∈ x.relocs, ∀ z ∈ [y.at_, y.kind], inI z := hnum.relocs
  have hx5 : ∀ z ∈ [x.low, x.high, x.lowF, x.highF], inI z := hnum.words
  have hR : objL x = faceL x.face ++ (num8 x.imports.length ++ x.imports.flatMap faceL) ++ (num8 x.code.length ++ x.code.flatMap insL) ++ (num8 x.relocs.length ++ x.relocs.flatMap relL) ++ (num8 x.procs.length ++ x.procs.flatMap plcL) ++ (num8 x.lows.length ++ x.lows.flatMap plcL) ++ (num8 x.highs.length ++ x.highs.flatMap plcL) ++ numsL [x.low, x.high, x.lowF, x.highF] := by
    simp only [objL, placesL, List.append_assoc]
  obtain ⟨R, hRR⟩ : ∃ y, objL x = y := ⟨_, rfl⟩
  unfold PutPost
  rw [hRR] at hR hs ⊢
  obtain ⟨xf, xi, xc, xr, op, ol, oh, lo, hi, lf, hf⟩ := x
  simp only at *
  obtain ⟨n1, hn1⟩ : ∃ n, xf.vars.length = n := ⟨_, rfl⟩
  obtain ⟨n2, hn2⟩ : ∃ n, xf.procs.length = n := ⟨_, rfl⟩
  obtain ⟨xn, hxn⟩ : ∃ n, xf.modn = n := ⟨_, rfl⟩
  obtain ⟨ni, hni⟩ : ∃ n, xi.length = n := ⟨_, rfl⟩
  obtain ⟨nc, hnc⟩ : ∃ n, xc.length = n := ⟨_, rfl⟩
  obtain ⟨nr, hnr⟩ : ∃ n, xr.length = n := ⟨_, rfl⟩
  obtain ⟨np, hnp⟩ : ∃ n, op.length = n := ⟨_, rfl⟩
  obtain ⟨nl, hnl⟩ : ∃ n, ol.length = n := ⟨_, rfl⟩
  obtain ⟨nh, hnh⟩ : ∃ n, oh.length = n := ⟨_, rfl⟩
  have hfa : ∀ (u : World) (B S : Nat) (v : Value) (bs : List UInt8) (w0 : World), Ext w w0 → Ext w0 u → w0.heap.size ≤ B → Wr u B S v bs → bs.length + (faceL xf).length ≤ 100000000000000 → Calls Tryz.prog 60 #[.pointer (some ⟨S, 0, none⟩), .agg #[.string xn, .slice fa n1 am, .slice fc n2 cm]] u fun e w' => e = .returned (.tuple #[]) ∧ Wrote u B S v (bs ++ faceL xf) w' := by
    intro u B S v bs w0 hE0 hE hB h hs
    subst hxn hn1 hn2
    exact face_any xf fa am fc cm hE hB (FaceAt.ext hE0 hF0) hx1 h hs
  rw [hni, hnc, hnr, hnp, hnl, hnh] at hR hM ⊢
  rw [hn1, hn2, hxn] at hM ⊢
  have HR := Lib.hid hR
  rw [hR] at hs
  repeat rw [List.length_append] at hs
  have e1 : (num8 (ni : Int)).length = 8 := obj.num8_len _
  have e2 : (num8 (nc : Int)).length = 8 := obj.num8_len _
  have e3 : (num8 (nr : Int)).length = 8 := obj.num8_len _
  have e4 : (num8 (np : Int)).length = 8 := obj.num8_len _
  have e5 : (num8 (nl : Int)).length = 8 := obj.num8_len _
  have e6 : (num8 (nh : Int)).length = 8 := obj.num8_len _
  have e0 : ([] : List UInt8).length = 0 := rfl
  have e7 : (numsL [lo, hi, lf, hf]).length = 32 := obj.numsL_len _
  have HP := Lib.hid (And.intro h1 (And.intro h2 (And.intro h3 (And.intro h4 (And.intro h5 h6)))))
  have HX := Lib.hid (And.intro hx2 (And.intro hx3 hx4))
  have HX5 := Lib.hid hx5
  have HQ4 := Lib.hid (plc_nums h4)
  have HQ5 := Lib.hid (plc_nums h5)
  have HQ6 := Lib.hid (plc_nums h6)
  have HFA := Lib.hid hfa
  have HM := Lib.hid hM
  clear hfa h1 h2 h3 h4 h5 h6 hx1 hx2 hx3 hx4 hx5 hnum hF0 hM hR hRR hn1 hn2 hxn
  have Hni := Lib.hid hni
  have Hnc := Lib.hid hnc
  have Hnr := Lib.hid hnr
  have Hnp := Lib.hid hnp
  have Hnl := Lib.hid hnl
  have Hnh := Lib.hid hnh
  clear hni hnc hnr hnp hnl hnh
  have hO := Blk.made w #[.string xn, .slice fa n1 am, .slice fc n2 cm, .slice ia ni ic, .slice ca nc cc, .slice ra nr rc, .slice pa np pc, .slice la nl lc, .slice ha nh hc, .int .i64 lo, .int .i64 hi, .int .i64 lf, .int .i64 hf] 57
  have hE0 : Ext w (w.alloc (.cells #[.string xn, .slice fa n1 am, .slice fc n2 cm, .slice ia ni ic, .slice ca nc cc, .slice ra nr rc, .slice pa np pc, .slice la nl lc, .slice ha nh hc, .int .i64 lo, .int .i64 hi, .int .i64 lf, .int .i64 hf] 57)) := (Chg.refl _ _).alloc _
  go_enter Tryz.func22, Tryz.ntmps22
  go_wp2_with fail
  refine (HM.out _ hE0).mono ?_
  rintro e w1 ⟨rfl, hE1⟩
  have hO1 := hO.ext hE1
  have hE1 := hE0.ext hE1
  clear hO hE0 HM
  cases M
  · go_wp2_with fail
    (try simp only [Exit.inBlock, Exit.then])
    refine bodyPost_ret (results_tmp2 rfl _ _ _) rfl ?_
    exact ⟨hE1, rfl⟩
  · have hOc := hO1.cell
    have hOf := hO1.frozen
    have hOl := hO1.lt
    have hBW : w.heap.size ≤ w1.heap.size := by omega
    have hOA := hO1.alloc (.cells #[.slice none 0 0] 117)
    have hW00 : Wr (w1.alloc (.cells #[.slice none 0 0] 117)) w1.heap.size w1.heap.size (.slice none 0 0) [] := ⟨Blk.made _ _ _, World.ownsRow_nil _ _ _ _, by simp [Value.ownBlock], Nat.le_refl _⟩
    have hE00 : Ext w1 (w1.alloc (.cells #[.slice none 0 0] 117)) := (Chg.refl _ _).alloc _
    have hz00 : (w1.alloc (.cells #[.slice none 0 0] 117)).heap.size = w1.heap.size + 1 := by simp
    have hW0 := Wr.alloc hW00 (.cells #[.pointer (some ⟨w1.heap.size, 0, none⟩)] 115)
    have hE0 := hE00.alloc (.cells #[.pointer (some ⟨w1.heap.size, 0, none⟩)] 115)
    have hK0 := Apart.made hW00 #[.pointer (some ⟨w1.heap.size, 0, none⟩)] 115
    rw [hz00] at hK0
    have hN0 : Apart ((w1.alloc (.cells #[.slice none 0 0] 117)).alloc (.cells #[.pointer (some ⟨w1.heap.size, 0, none⟩)] 115)) (.slice none 0 0) w1.heap.size w.heap.size #[.string xn, .slice fa n1 am, .slice fc n2 cm, .slice ia ni ic, .slice ca nc cc, .slice ra nr rc, .slice pa np pc, .slice la nl lc, .slice ha nh hc, .int .i64 lo, .int .i64 hi, .int .i64 lf, .int .i64 hf] 57 := ⟨hOA.alloc _, by omega, by simp [Value.ownBlock]⟩
    clear hW00 hE00 hO1 hOA
    have hS0 := Since.refl ((w1.alloc (.cells #[.slice none 0 0] 117)).alloc (.cells #[.pointer (some ⟨w1.heap.size, 0, none⟩)] 115)) (.slice none 0 0) w1.heap.size
    have HEX := Lib.hid (fun u v (h : Since ((w1.alloc (.cells #[.slice none 0 0] 117)).alloc (.cells #[.pointer (some ⟨w1.heap.size, 0, none⟩)] 115)) (.slice none 0 0) w1.heap.size u v) => ext_since hE0 (Nat.le_refl _) hW0 h)
    have hKc0 := hK0.blk.cell
    have hKf0 := hK0.blk.frozen
    have hKl0 := hK0.blk.lt
    have hNc0 := hN0.blk.cell
    have hNf0 := hN0.blk.frozen
    have hNl0 := hN0.blk.lt
    go_wp2_with (first | (go_at_call 64; refine (nums_at [lo, hi, lf, hf] 4 (by first | rfl | simp) rfl hW7 HX5.out (by (repeat rw [List.length_append]); omega)).mono ?_; rintro e w8 ⟨rfl, hw8⟩; obtain ⟨v8, hW8, hs8⟩ := Wrote.out hw8; clear hw8; have hS8 := hS7.trans hs8; have hK8 := hK7.since hs8; have hKc8 := hK8.blk.cell; have hKf8 := hK8.blk.frozen; have hKl8 := hK8.blk.lt; have hN8 := hN7.since hs8; have hNc8 := hN8.blk.cell; have hNf8 := hN8.blk.frozen; have hNl8 := hN8.blk.lt; clear hs8; obtain ⟨p8, m8, c8, rfl⟩ := owns_slice hW8.own; have hSc := hW8.blk.cell; have hSf := hW8.blk.frozen; have hSl := hW8.blk.lt) | (go_at_call 69; refine (list_plc (HEX.out _ _ hS6) (Nat.le_refl _) ha oh nh hc Hnh.out (obj.plc_all HP.out.2.2.2.2.2 hE1) HQ6.out hW6 (by (repeat rw [List.length_append]); omega)).mono ?_; rintro e w7 ⟨rfl, hw7⟩; obtain ⟨v7, hW7, hs7⟩ := Wrote.out hw7; clear hw7; have hS7 := hS6.trans hs7; have hK7 := hK6.since hs7; have hKc7 := hK7.blk.cell; have hKf7 := hK7.blk.frozen; have hKl7 := hK7.blk.lt; have hN7 := hN6.since hs7; have hNc7 := hN7.blk.cell; have hNf7 := hN7.blk.frozen; have hNl7 := hN7.blk.lt; clear hs7) | (go_at_call 69; refine (list_plc (HEX.out _ _ hS5) (Nat.le_refl _) la ol nl lc Hnl.out (obj.plc_all HP.out.2.2.2.2.1 hE1) HQ5.out hW5 (by (repeat rw [List.length_append]); omega)).mono ?_; rintro e w6 ⟨rfl, hw6⟩; obtain ⟨v6, hW6, hs6⟩ := Wrote.out hw6; clear hw6; have hS6 := hS5.trans hs6; have hK6 := hK5.since hs6; have hKc6 := hK6.blk.cell; have hKf6 := hK6.blk.frozen; have hKl6 := hK6.blk.lt; have hN6 := hN5.since hs6; have hNc6 := hN6.blk.cell; have hNf6 := hN6.blk.frozen; have hNl6 := hN6.blk.lt; clear hs6) | (go_at_call 69; refine (list_plc (HEX.out _ _ hS4) (Nat.le_refl _) pa op np pc Hnp.out (obj.plc_all HP.out.2.2.2.1 hE1) HQ4.out hW4 (by (repeat rw [List.length_append]); omega)).mono ?_; rintro e w5 ⟨rfl, hw5⟩; obtain ⟨v5, hW5, hs5⟩ := Wrote.out hw5; clear hw5; have hS5 := hS4.trans hs5; have hK5 := hK4.since hs5; have hKc5 := hK5.blk.cell; have hKf5 := hK5.blk.frozen; have hKl5 := hK5.blk.lt; have hN5 := hN4.since hs5; have hNc5 := hN5.blk.cell; have hNf5 := hN5.blk.frozen; have hNl5 := hN5.blk.lt; clear hs5) | (go_at_call 66; refine (list_rel (HEX.out _ _ hS3) (Nat.le_refl _) ra xr nr rc Hnr.out (rel_all HP.out.2.2.1 hE1) HX.out.2.2 hW3 hK3 (by (repeat rw [List.length_append]); omega)).mono ?_; rintro e w4 ⟨rfl, hw4⟩; obtain ⟨v4, hW4, hs4⟩ := Wrote.out hw4; clear hw4; have hS4 := hS3.trans hs4; have hK4 := hK3.since hs4; have hKc4 := hK4.blk.cell; have hKf4 := hK4.blk.frozen; have hKl4 := hK4.blk.lt; have hN4 := hN3.since hs4; have hNc4 := hN4.blk.cell; have hNf4 := hN4.blk.frozen; have hNl4 := hN4.blk.lt; clear hs4) | (go_at_call 62; refine (list_ins (HEX.out _ _ hS2) (Nat.le_refl _) ca xc nc cc Hnc.out (ins_all HP.out.2.1 hE1) HX.out.2.1 hW2 hK2 (by (repeat rw [List.length_append]); omega)).mono ?_; rintro e w3 ⟨rfl, hw3⟩; obtain ⟨v3, hW3, hs3⟩ := Wrote.out hw3; clear hw3; have hS3 := hS2.trans hs3; have hK3 := hK2.since hs3; have hKc3 := hK3.blk.cell; have hKf3 := hK3.blk.frozen; have hKl3 := hK3.blk.lt; have hN3 := hN2.since hs3; have hNc3 := hN3.blk.cell; have hNf3 := hN3.blk.frozen; have hNl3 := hN3.blk.lt; clear hs3) | (go_at_call 61; refine (list_face (HEX.out _ _ hS1) (Nat.le_refl _) ia xi ni ic Hni.out (face_all HP.out.1 hE1) HX.out.1 hW1 (by (repeat rw [List.length_append]); omega)).mono ?_; rintro e w2 ⟨rfl, hw2⟩; obtain ⟨v2, hW2, hs2⟩ := Wrote.out hw2; clear hw2; have hS2 := hS1.trans hs2; have hK2 := hK1.since hs2; have hKc2 := hK2.blk.cell; have hKf2 := hK2.blk.frozen; have hKl2 := hK2.blk.lt; have hN2 := hN1.since hs2; have hNc2 := hN2.blk.cell; have hNf2 := hN2.blk.frozen; have hNl2 := hN2.blk.lt; clear hs2) | (go_at_call 60; refine (HFA.out _ _ _ _ _ _ hE1 hE0 (Nat.le_refl _) hW0 (by (repeat rw [List.length_append]); omega)).mono ?_; rintro e w1 ⟨rfl, hw1⟩; obtain ⟨v1, hW1, hs1⟩ := Wrote.out hw1; clear hw1; have hS1 := hS0.trans hs1; have hK1 := hK0.since hs1; have hKc1 := hK1.blk.cell; have hKf1 := hK1.blk.frozen; have hKl1 := hK1.blk.lt; have hN1 := hN0.since hs1; have hNc1 := hN1.blk.cell; have hNf1 := hN1.blk.frozen; have hNl1 := hN1.blk.lt; clear hs1))
    (try simp only [Exit.inBlock, Exit.then])
    refine bodyPost_ret (results_tmp2 rfl _ _ _) rfl ?_
    refine ⟨hE1.ext (HEX.out _ _ hS8), _, rfl, ?_⟩
    have hown := hW8.own
    rw [HR.out]
    rw [List.nil_append] at hown
    exact World.ownsRow.mono hown hBW
end objw
end Go.Proofs.YtpcihajmcejliabGreatDoor
