/- The walk of the law ObjectGets. -/
import Derived.Test.YtpcihajmcejliaaGreatDoorGetE
import Derived.Test.YtpcihajmcejliaaGreatDoorObjRMayA
import Derived.Test.YtpcihajmcejliaaGreatDoorObjSame
namespace Go.Proofs.YtpcihajmcejliaaGreatDoor
open Go.RowKit
namespace getsLaw
def zeroX : FObj := ⟨⟨⟨#[]⟩, [], []⟩, [], [], [], [], [], [], 0, 0, 0, 0⟩
theorem zero_at (w : World) : ObjAt w zeroX (.agg zeroObj) :=
  ⟨none, 0, none, 0, none, 0, none, 0, none, 0, none, 0, none, 0, none, 0, rfl, (getw.ObjD.nil w).1, fun j hj => absurd hj (Nat.not_lt_zero j), fun j hj => absurd hj (Nat.not_lt_zero j), fun j hj => absurd hj (Nat.not_lt_zero j), fun j hj => absurd hj (Nat.not_lt_zero j), fun j hj => absurd hj (Nat.not_lt_zero j), fun j hj => absurd hj (Nat.not_lt_zero j)⟩
theorem zero_small : ObjSmall zeroX where
  imports := by decide
  code := by decide
  relocs := by decide
  procs := by decide
  lows := by decide
  highs := by decide
  faces f hf := by
    rcases List.mem_cons.1 hf with rfl | hf
    · decide
    · cases hf
  strs r hr := by cases hr
/-- what a reading comes to: which object, which error -/
def outX (T : Option (FObj × List UInt8)) : FObj × Int := match T with
  | some (x, []) => if mayObjB x = true then (x, 0) else (zeroX, 2)
  | _ => (zeroX, 2)
theorem out_of {w w' : World} {T : Option (FObj × List UInt8)} {e : Ending} (h : getw.GetPost w T e w') : Ext w w' ∧ ∃ v, e = .returned (.tuple #[v, .int .i64 (outX T).2]) ∧ ObjAt w' (outX T).1 v := by
  obtain ⟨hE, h⟩ := h
  refine ⟨hE, ?_⟩
  rcases h with ⟨x, o, hT, hm, he, hat⟩ | ⟨hno, he⟩
  · have e : outX T = (x, 0) := by subst hT; simp only [outX, hm, if_true]
    rw [e]
    exact ⟨o, he, hat⟩
  · have e : outX T = (zeroX, 2) := by
      unfold outX
      split
      · rename_i x
        rw [hno x rfl]
        rfl
      · rfl
    rw [e]
    exact ⟨_, he, zero_at w'⟩
theorem out_small {T : Option (FObj × List UInt8)} (h : ∀ x, T = some (x, []) → ObjSmall x) : ObjSmall (outX T).1 := by
  unfold outX
  split
  · rename_i x
    split
    · exact h x rfl
    · exact zero_small
  · exact zero_small
set_option maxRecDepth 100000 in
set_option maxHeartbeats 16000000 in
theorem walk (L : List UInt8) (v : Value) (w : World) (hv : BytesAt w L v) (hs : L.length ≤ 1048576) (hev : ErrVar w) (hmv : MaxVar w) :
    Calls Tryz.prog 6 #[v] w fun e w' => e = .returned (.bool true) ∧ Ext w w' := by
  have hg1 := getw.get_any L v w hv hs (fun u x v hE hx hsm => mayo.may_any x v u hx hsm (hev.ext hE) (hmv.ext hE))
  have hg2 := fun (u : World) (hE : Ext w u) => getr.get_any L v u (hv.ext hE) hs (fun u x v hE hx hsm => rmayo.may_any x v u hx hsm)
  have hsm := out_small (T := rdObj L) (fun x hx => getw.obj_small hx hs)
  obtain ⟨T, hT⟩ : ∃ T, rdObj L = T := ⟨_, rfl⟩
  rw [hT] at hg1 hg2 hsm
  obtain ⟨a, c, rfl, -, -, -⟩ := hv.ex
  have HG1 := Lib.hid hg1
  have HG2 := Lib.hid hg2
  have HSM := Lib.hid hsm
  obtain ⟨x, hx⟩ : ∃ x, (outX T).1 = x := ⟨_, rfl⟩
  obtain ⟨ec, hec⟩ : ∃ c, (outX T).2 = c := ⟨_, rfl⟩
  have HOX := Lib.hid (And.intro hx hec)
  clear hg1 hg2 hsm hv hev hmv hT hx hec
  go_enter Tryz.func6, Tryz.ntmps6
  go_wp2_with fail
  refine HG1.out.mono ?_
  intro e w1 hp
  obtain ⟨hE1, v1, he, hat1⟩ := out_of hp
  rw [HOX.out.2] at he
  rw [HOX.out.1] at hat1
  subst he
  obtain ⟨p0, p1, p2, p3, p4, p5, p6, p7, p8, p9, p10, p11, p12, p13, p14, p15, hve, -⟩ := hat1.ex
  subst hve
  have HAT1 := Lib.hid hat1
  have hB1 : Blk (w1.alloc (.cells #[.string x.face.modn, .slice p0 x.face.vars.length p1, .slice p2 x.face.procs.length p3, .slice p4 x.imports.length p5, .slice p6 x.code.length p7, .slice p8 x.relocs.length p9, .slice p10 x.procs.length p11, .slice p12 x.lows.length p13, .slice p14 x.highs.length p15, .int .i64 x.low, .int .i64 x.high, .int .i64 x.lowF, .int .i64 x.highF] 31)) w1.heap.size #[.string x.face.modn, .slice p0 x.face.vars.length p1, .slice p2 x.face.procs.length p3, .slice p4 x.imports.length p5, .slice p6 x.code.length p7, .slice p8 x.relocs.length p9, .slice p10 x.procs.length p11, .slice p12 x.lows.length p13, .slice p14 x.highs.length p15, .int .i64 x.low, .int .i64 x.high, .int .i64 x.lowF, .int .i64 x.highF] 31 := Blk.made _ _ _
  have hX1 : Ext w1 (w1.alloc (.cells #[.string x.face.modn, .slice p0 x.face.vars.length p1, .slice p2 x.face.procs.length p3, .slice p4 x.imports.length p5, .slice p6 x.code.length p7, .slice p8 x.relocs.length p9, .slice p10 x.procs.length p11, .slice p12 x.lows.length p13, .slice p14 x.highs.length p15, .int .i64 x.low, .int .i64 x.high, .int .i64 x.lowF, .int .i64 x.highF] 31)) := (Chg.refl _ _).alloc _
  have hX2 := hE1.ext hX1
  clear hp hat1
  obtain ⟨V, hVe⟩ : ∃ V, w1.heap.size = V := ⟨_, rfl⟩
  rw [hVe] at hB1
  have HATV := Lib.hid (ObjAt.ext hX1 HAT1.out)
  go_wp2_with fail
  generalize w1.alloc (.cells #[.string x.face.modn, .slice p0 x.face.vars.length p1, .slice p2 x.face.procs.length p3, .slice p4 x.imports.length p5, .slice p6 x.code.length p7, .slice p8 x.relocs.length p9, .slice p10 x.procs.length p11, .slice p12 x.lows.length p13, .slice p14 x.highs.length p15, .int .i64 x.low, .int .i64 x.high, .int .i64 x.lowF, .int .i64 x.highF] 31) = w2 at *
  refine (HG2.out _ hX2).mono ?_
  intro e w3 hp
  obtain ⟨hE3, v2, he, hat2⟩ := out_of hp
  rw [HOX.out.2] at he
  rw [HOX.out.1] at hat2
  subst he
  obtain ⟨q0, q1, q2, q3, q4, q5, q6, q7, q8, q9, q10, q11, q12, q13, q14, q15, hve, -⟩ := hat2.ex
  subst hve
  have hB3 := hB1.ext hE3
  have hBc := hB3.cell
  have hBl := hB3.lt
  have HAT2 := Lib.hid hat2
  have HATA := Lib.hid (ObjAt.ext hE3 HATV.out)
  have hX3 := hX2.ext hE3
  clear hp hat2 hB1 hX1 hX2 hE1 hE3
  have HSM' := HSM.out
  rw [HOX.out.1] at HSM'
  have hne : V ≠ w3.heap.size := by omega
  go_wp2_with fail
  have hE4 : Ext w3 (w3.alloc (.cells #[.string x.face.modn, .slice q0 x.face.vars.length q1, .slice q2 x.face.procs.length q3, .slice q4 x.imports.length q5, .slice q6 x.code.length q7, .slice q8 x.relocs.length q9, .slice q10 x.procs.length q11, .slice q12 x.lows.length q13, .slice q14 x.highs.length q15, .int .i64 x.low, .int .i64 x.high, .int .i64 x.lowF, .int .i64 x.highF] 31)) := (Chg.refl _ _).alloc _
  refine (objSame.same_any x _ _ _ (ObjAt.ext hE4 HATA.out) (ObjAt.ext hE4 HAT2.out) HSM'.imports HSM'.code HSM'.relocs HSM'.procs HSM'.lows HSM'.highs).mono ?_
  rintro e w5 ⟨rfl, hE5⟩
  have hX5 := (hX3.ext hE4).ext hE5
  clear hE4 hE5 hX3 hBc hBl hB3
  go_wp2_with fail
  go_ret
  exact ⟨rfl, hX5⟩
end getsLaw
end Go.Proofs.YtpcihajmcejliaaGreatDoor
