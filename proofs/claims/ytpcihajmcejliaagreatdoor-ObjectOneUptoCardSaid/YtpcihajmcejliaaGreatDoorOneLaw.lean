/- The walk of the law ObjectOne. -/
import Derived.Test.YtpcihajmcejliaaGreatDoorObjLaw
import Derived.Test.YtpcihajmcejliaaGreatDoorObjSame
import Derived.Test.YtpcihajmcejliaaGreatDoorObjInj
namespace Go.Proofs.YtpcihajmcejliaaGreatDoor
open Go.RowKit
namespace oneLaw
/-- what the law asks of an object that comes in -/
structure Good (w : World) (x : FObj) (v : Value) : Prop where
  at_ : ObjAt w x v
  nums : ObjNums x
  plcs : objInj.PlcNums x
  small : ObjSmall x
  len : (objL x).length ≤ 9437184
theorem inj {w : World} {x y : FObj} {v u : Value} (hx : Good w x v) (hy : Good w y u) (h : objL x = objL y) : x = y :=
  objInj.objL_inj ⟨hx.nums, hx.plcs⟩ ⟨hy.nums, hy.plcs⟩ (by have := hx.len; omega) h
theorem put_good {w : World} {x : FObj} {v : Value} (hx : Good w x v) (hev : ErrVar w) (hmv : MaxVar w) (u : World) (hE : Ext w u) : Calls Tryz.prog 8 #[v] u (objw.PutPost x (mayObjB x) u) :=
  objw.put_any x v u (mayObjB x) (ObjAt.ext hE hx.at_) hx.nums (by have := hx.len; omega) (fun u2 hE2 => mayo.may_any x v u2 (ObjAt.ext (hE.ext hE2) hx.at_) hx.small (hev.ext (hE.ext hE2)) (hmv.ext (hE.ext hE2)))
theorem same_good {w : World} {x y : FObj} {v u : Value} (hx : Good w x v) (hy : Good w y u) (e : x = y) (w2 : World) (hE : Ext w w2) : Calls Tryz.prog 17 #[v, u] w2 fun e w' => e = .returned (.bool true) ∧ Ext w2 w' := by
  subst e
  exact objSame.same_any x v u w2 (ObjAt.ext hE hx.at_) (ObjAt.ext hE hy.at_) hx.small.imports hx.small.code hx.small.relocs hx.small.procs hx.small.lows hx.small.highs
set_option maxRecDepth 100000 in
set_option maxHeartbeats 16000000 in
theorem walk (x y : FObj) (v u : Value) (w : World) (hx : Good w x v) (hy : Good w y u) (hev : ErrVar w) (hmv : MaxVar w) :
    Calls Tryz.prog 5 #[v, u] w fun e w' => e = .returned (.bool true) ∧ Ext w w' := by
  have hp1 := put_good hx hev hmv
  have hp2 := put_good hy hev hmv
  have hsm := same_good hx hy
  have hij := inj hx hy
  have hpos1 := objlaw.objL_pos x
  have hpos2 := objlaw.objL_pos y
  unfold objw.PutPost at hp1 hp2
  obtain ⟨ca, cm, cc, cd, ci, cj, ce, cf, cr, cz, cp, cq, cl, ck, ch, cg, rfl, -⟩ := hx.at_.ex
  obtain ⟨da, dm, dc, dd, di, dj, de, df, dr, dz, dp, dq, dl, dk, dh, dg, rfl, -⟩ := hy.at_.ex
  clear hx hy hev hmv
  obtain ⟨c0, hc0⟩ : ∃ z, x.face.modn = z := ⟨_, rfl⟩
  obtain ⟨c1, hc1⟩ : ∃ z, x.face.vars.length = z := ⟨_, rfl⟩
  obtain ⟨c2, hc2⟩ : ∃ z, x.face.procs.length = z := ⟨_, rfl⟩
  obtain ⟨c3, hc3⟩ : ∃ z, x.imports.length = z := ⟨_, rfl⟩
  obtain ⟨c4, hc4⟩ : ∃ z, x.code.length = z := ⟨_, rfl⟩
  obtain ⟨c5, hc5⟩ : ∃ z, x.relocs.length = z := ⟨_, rfl⟩
  obtain ⟨c6, hc6⟩ : ∃ z, x.procs.length = z := ⟨_, rfl⟩
  obtain ⟨c7, hc7⟩ : ∃ z, x.lows.length = z := ⟨_, rfl⟩
  obtain ⟨c8, hc8⟩ : ∃ z, x.highs.length = z := ⟨_, rfl⟩
  obtain ⟨cw, hcw⟩ : ∃ z, x.low = z := ⟨_, rfl⟩
  obtain ⟨cx, hcx⟩ : ∃ z, x.high = z := ⟨_, rfl⟩
  obtain ⟨cy, hcy⟩ : ∃ z, x.lowF = z := ⟨_, rfl⟩
  obtain ⟨ct, hct⟩ : ∃ z, x.highF = z := ⟨_, rfl⟩
  obtain ⟨d0, hd0⟩ : ∃ z, y.face.modn = z := ⟨_, rfl⟩
  obtain ⟨d1, hd1⟩ : ∃ z, y.face.vars.length = z := ⟨_, rfl⟩
  obtain ⟨d2, hd2⟩ : ∃ z, y.face.procs.length = z := ⟨_, rfl⟩
  obtain ⟨d3, hd3⟩ : ∃ z, y.imports.length = z := ⟨_, rfl⟩
  obtain ⟨d4, hd4⟩ : ∃ z, y.code.length = z := ⟨_, rfl⟩
  obtain ⟨d5, hd5⟩ : ∃ z, y.relocs.length = z := ⟨_, rfl⟩
  obtain ⟨d6, hd6⟩ : ∃ z, y.procs.length = z := ⟨_, rfl⟩
  obtain ⟨d7, hd7⟩ : ∃ z, y.lows.length = z := ⟨_, rfl⟩
  obtain ⟨d8, hd8⟩ : ∃ z, y.highs.length = z := ⟨_, rfl⟩
  obtain ⟨dw, hdw⟩ : ∃ z, y.low = z := ⟨_, rfl⟩
  obtain ⟨dx, hdx⟩ : ∃ z, y.high = z := ⟨_, rfl⟩
  obtain ⟨dy, hdy⟩ : ∃ z, y.lowF = z := ⟨_, rfl⟩
  obtain ⟨dt, hdt⟩ : ∃ z, y.highF = z := ⟨_, rfl⟩
  rw [hc0, hc1, hc2, hc3, hc4, hc5, hc6, hc7, hc8, hcw, hcx, hcy, hct] at hp1 hsm
  rw [hd0, hd1, hd2, hd3, hd4, hd5, hd6, hd7, hd8, hdw, hdx, hdy, hdt] at hp2 hsm
  rw [hc0, hc1, hc2, hc3, hc4, hc5, hc6, hc7, hc8, hcw, hcx, hcy, hct, hd0, hd1, hd2, hd3, hd4, hd5, hd6, hd7, hd8, hdw, hdx, hdy, hdt]
  clear hc0 hc1 hc2 hc3 hc4 hc5 hc6 hc7 hc8 hcw hcx hcy hct hd0 hd1 hd2 hd3 hd4 hd5 hd6 hd7 hd8 hdw hdx hdy hdt
  generalize mayObjB x = M1 at *
  generalize mayObjB y = M2 at *
  generalize objL x = L1 at *
  generalize objL y = L2 at *
  have HP1 := Lib.hid hp1
  have HP2 := Lib.hid hp2
  have HSM := Lib.hid hsm
  have HIJ := Lib.hid hij
  have HPOS1 := Lib.hid hpos1
  have HPOS2 := Lib.hid hpos2
  clear hp1 hp2 hsm hij hpos1 hpos2
  have hX0 := Blk.alloc (Blk.made w #[.string c0, .slice ca c1 cm, .slice cc c2 cd, .slice ci c3 cj, .slice ce c4 cf, .slice cr c5 cz, .slice cp c6 cq, .slice cl c7 ck, .slice ch c8 cg, .int .i64 cw, .int .i64 cx, .int .i64 cy, .int .i64 ct] 31) (.cells #[.string d0, .slice da d1 dm, .slice dc d2 dd, .slice di d3 dj, .slice de d4 df, .slice dr d5 dz, .slice dp d6 dq, .slice dl d7 dk, .slice dh d8 dg, .int .i64 dw, .int .i64 dx, .int .i64 dy, .int .i64 dt] 31)
  have hY0 := Blk.made2 w (.cells #[.string c0, .slice ca c1 cm, .slice cc c2 cd, .slice ci c3 cj, .slice ce c4 cf, .slice cr c5 cz, .slice cp c6 cq, .slice cl c7 ck, .slice ch c8 cg, .int .i64 cw, .int .i64 cx, .int .i64 cy, .int .i64 ct] 31) #[.string d0, .slice da d1 dm, .slice dc d2 dd, .slice di d3 dj, .slice de d4 df, .slice dr d5 dz, .slice dp d6 dq, .slice dl d7 dk, .slice dh d8 dg, .int .i64 dw, .int .i64 dx, .int .i64 dy, .int .i64 dt] 31
  have hE0 : Ext w ((w.alloc (.cells #[.string c0, .slice ca c1 cm, .slice cc c2 cd, .slice ci c3 cj, .slice ce c4 cf, .slice cr c5 cz, .slice cp c6 cq, .slice cl c7 ck, .slice ch c8 cg, .int .i64 cw, .int .i64 cx, .int .i64 cy, .int .i64 ct] 31)).alloc (.cells #[.string d0, .slice da d1 dm, .slice dc d2 dd, .slice di d3 dj, .slice de d4 df, .slice dr d5 dz, .slice dp d6 dq, .slice dl d7 dk, .slice dh d8 dg, .int .i64 dw, .int .i64 dx, .int .i64 dy, .int .i64 dt] 31)) := ((Chg.refl _ _).alloc _).alloc _
  have hxc := hX0.cell
  have hxf := hX0.frozen
  have hxl := hX0.lt
  have hyc := hY0.cell
  have hyf := hY0.frozen
  have hyl := hY0.lt
  go_enter Tryz.func5, Tryz.ntmps5
  go_wp2_with fail
  refine (HP1.out _ hE0).mono ?_
  rintro e w1 ⟨hE, hor⟩
  clear hxc hxf hxl hyc hyf hyl
  have hX1 := hX0.ext hE
  have hY1 := hY0.ext hE
  have hE1 := hE0.ext hE
  clear hX0 hY0 hE0 hE HP1
  have hxc := hX1.cell
  have hxf := hX1.frozen
  have hxl := hX1.lt
  have hyc := hY1.cell
  have hyf := hY1.frozen
  have hyl := hY1.lt
  rcases hor with ⟨rfl, rfl⟩ | ⟨rfl, r1, rfl, hown1⟩
  · go_wp2_with fail
    refine (HP2.out _ hE1).mono ?_
    rintro e w2 ⟨hE, hor⟩
    have hE2 := hE1.ext hE
    clear hX1 hY1 hE1 hE hxc hxf hxl hyc hyf hyl
    rcases hor with ⟨rfl, rfl⟩ | ⟨rfl, r2, rfl, hown2⟩
    · go_wp2_with fail
      go_ret
      exact ⟨rfl, hE2⟩
    · go_wp2_with fail
      go_ret
      exact ⟨rfl, hE2⟩
  · obtain ⟨g1, cap1, rfl, hcv1⟩ := objlaw.row_text hown1 HPOS1.out
    have HCV1 := Lib.hid hcv1
    clear hcv1 hown1
    go_wp2_with fail
    refine (HP2.out _ hE1).mono ?_
    rintro e w2 ⟨hE, hor⟩
    clear hxc hxf hxl hyc hyf hyl
    have hX2 := hX1.ext hE
    have hY2 := hY1.ext hE
    have hE2 := hE1.ext hE
    have hcv1 := HCV1.out _ hE
    clear hX1 hY1 hE1 hE HP2
    have hxc := hX2.cell
    have hxf := hX2.frozen
    have hxl := hX2.lt
    have hyc := hY2.cell
    have hyf := hY2.frozen
    have hyl := hY2.lt
    rcases hor with ⟨rfl, rfl⟩ | ⟨rfl, r2, rfl, hown2⟩
    · clear hX2 hY2
      go_wp2_with fail
      go_ret
      exact ⟨rfl, hE2⟩
    · obtain ⟨g2, cap2, rfl, hcv2⟩ := objlaw.row_text hown2 HPOS2.out
      have hcv2 := hcv2 _ (Chg.refl _ _)
      have HLT := Lib.hid (show (0 : Int) < (L1.length : Int) by have := HPOS1.out; omega)
      obtain ⟨A, hA⟩ : ∃ A, (⟨L1.toArray⟩ : ByteArray) = A := ⟨_, rfl⟩
      obtain ⟨D, hD⟩ : ∃ D, (⟨L2.toArray⟩ : ByteArray) = D := ⟨_, rfl⟩
      rw [hA] at hcv1
      rw [hD] at hcv2
      clear hown2 hX2 hY2
      by_cases he : L1 = L2
      · have hsm2 := HSM.out (HIJ.out he)
        have HSM2 := Lib.hid hsm2
        have hAD : A = D := by rw [← hA, ← hD, he]
        subst hAD
        clear hsm2 hA hD
        have hpos := HLT.out
        have hlen : 0 < L1.length := by omega
        clear he
        go_wp2_with fail
        refine (HSM2.out _ hE2).mono ?_
        rintro e w3 ⟨rfl, hE3⟩
        go_wp2_with fail
        go_ret
        exact ⟨rfl, hE2.ext hE3⟩
      · have hne : (A.toList == D.toList) = false := by
          rw [beq_eq_false_iff_ne]
          intro e
          refine he ?_
          have h1 : A = D := rmayo.str_inj e
          rw [← hA, ← hD] at h1
          have h2 := congrArg (fun z : ByteArray => z.data.toList) h1
          simpa using h2
        clear he hA hD
        go_wp2_with fail
        go_ret
        exact ⟨rfl, hE2⟩
end oneLaw
end Go.Proofs.YtpcihajmcejliaaGreatDoor
