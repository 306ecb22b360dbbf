/- The walk of the law FaceMay. -/
import Derived.Test.YtpcihajmcejliaaDoorFaceMay
namespace Go.Proofs.YtpcihajmcejliaaDoor.faceMay
open Go.RowKit Go.Proofs.YtpcihajmcejliaaDoor
set_option maxRecDepth 100000 in
set_option maxHeartbeats 1000000 in
theorem walk (x y : FFace) (v u : Value) (w : World) (hx : FaceAt w x v) (hy : FaceAt w y u) (hsum : x.vars.length + x.procs.length < maxLen) (hev : ErrVar w) (hmv : MaxVar w) :
    Calls Tryd.prog 5 #[v, u] w fun e w' => e = .returned (.bool true) ∧ Ext w w' := by
  have C1 := Lib.hid (fun w2 (h : Ext w w2) => face.may_any x v w2 (hx.ext h) hsum (hev.ext h) (hmv.ext h))
  have C2 := Lib.hid (fun w2 (h : Ext w w2) => face.same_any x y v u w2 (hx.ext h) (hy.ext h))
  have C3 := Lib.hid (fun w2 (h : Ext w w2) => rface.may_any x v w2 (hx.ext h))
  have C4 := Lib.hid (fun w2 (h : Ext w w2) => rface.same_any x y v u w2 (hx.ext h) (hy.ext h))
  generalize mayFaceB x = A at *
  generalize decide (x = y) = B at *
  obtain ⟨a, am, c, cm, rfl, -⟩ := hx
  obtain ⟨b, bm, d, dm, rfl, -⟩ := hy
  generalize x.modn = xn at *
  generalize y.modn = yn at *
  generalize x.vars.length = n1 at *
  generalize x.procs.length = n2 at *
  generalize y.vars.length = n3 at *
  generalize y.procs.length = n4 at *
  have hB1 : Blk (w.alloc (.cells #[.string xn, .slice a n1 am, .slice c n2 cm] 34)) w.heap.size #[.string xn, .slice a n1 am, .slice c n2 cm] 34 := Blk.made _ _ _
  have hB2 := Blk.made (w.alloc (.cells #[.string xn, .slice a n1 am, .slice c n2 cm] 34)) #[.string yn, .slice b n3 bm, .slice d n4 dm] 34
  have hB1' := hB1.alloc (.cells #[.string yn, .slice b n3 bm, .slice d n4 dm] 34)
  have hz : (w.alloc (.cells #[.string xn, .slice a n1 am, .slice c n2 cm] 34)).heap.size = w.heap.size + 1 := by simp
  rw [hz] at hB2
  have hE : Ext w ((w.alloc (.cells #[.string xn, .slice a n1 am, .slice c n2 cm] 34)).alloc (.cells #[.string yn, .slice b n3 bm, .slice d n4 dm] 34)) := ((Chg.refl _ _).alloc _).alloc _
  have H := Lib.hid (And.intro hB1' (And.intro hB2 hE))
  clear hB1 hB2 hB1' hE hz hev hmv
  go_enter Tryd.func5, Tryd.ntmps5
  go_wp2_with fail
  refine (C1.out _ H.out.2.2).mono ?_
  rintro e w1 ⟨rfl, h1⟩
  have k1 := (H.out.1.ext h1).cell
  have k2 := (H.out.2.1.ext h1).cell
  have k3 := (H.out.1.ext h1).lt
  have k4 := (H.out.2.1.ext h1).lt
  have H1 := Lib.hid (And.intro (H.out.1.ext h1) (And.intro (H.out.2.1.ext h1) (H.out.2.2.ext h1)))
  clear h1 H
  go_wp2_with fail
  refine (C2.out _ H1.out.2.2).mono ?_
  rintro e w2 ⟨rfl, h1⟩
  clear k1 k2 k3 k4
  have k1 := (H1.out.1.ext h1).cell
  have k2 := (H1.out.2.1.ext h1).cell
  have k3 := (H1.out.1.ext h1).lt
  have k4 := (H1.out.2.1.ext h1).lt
  have H2 := Lib.hid (And.intro (H1.out.1.ext h1) (And.intro (H1.out.2.1.ext h1) (H1.out.2.2.ext h1)))
  clear h1 H1
  go_wp2_with fail
  refine (C3.out _ H2.out.2.2).mono ?_
  rintro e w3 ⟨rfl, h1⟩
  clear k1 k2 k3 k4
  have k1 := (H2.out.1.ext h1).cell
  have k2 := (H2.out.2.1.ext h1).cell
  have k3 := (H2.out.1.ext h1).lt
  have k4 := (H2.out.2.1.ext h1).lt
  have H3 := Lib.hid (H2.out.2.2.ext h1)
  clear h1 H2
  go_wp2_with fail
  refine (C4.out _ H3.out).mono ?_
  rintro e w4 ⟨rfl, h1⟩
  go_wp2_with fail
  go_ret
  exact ⟨ret_bool (by simp), H3.out.ext h1⟩
end Go.Proofs.YtpcihajmcejliaaDoor.faceMay
