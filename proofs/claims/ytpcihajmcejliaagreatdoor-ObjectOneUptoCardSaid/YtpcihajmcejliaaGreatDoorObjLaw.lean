/- The walk of the law ObjectPuts. -/
import Derived.Test.YtpcihajmcejliaaGreatDoorObjRMayA
import Derived.Test.YtpcihajmcejliaaGreatDoorObjPut
namespace Go.Proofs.YtpcihajmcejliaaGreatDoor
open Go.RowKit
namespace objlaw
theorem objL_pos (x : FObj) : 0 < (objL x).length := by
  unfold objL faceL
  repeat rw [List.length_append]
  rw [obj.text_len]
  omega
/-- a row of bytes that a call has made, as a text -/
theorem row_text {w : World} {B : Nat} {r : Value} {l : List UInt8} (h : w.ownsRow B 5 1 r l.length (bytesV l)) (hl : 0 < l.length) :
    ∃ g cap, r = .slice (some ⟨g, 0, none⟩) l.length cap ∧ ∀ w', Ext w w' → (convert 33 9 (.slice (some ⟨g, 0, none⟩) l.length cap)).run Tryz.prog w' = .ok (.string ⟨l.toArray⟩) w' := by
  rcases h.2 with ⟨rfl, h0⟩ | ⟨g, cap, cur, rfl, hrest⟩
  · omega
  · refine ⟨g, cap, rfl, fun w' hE => ?_⟩
    have hlt := (h.lt g rfl).2
    refine run_convert_bytes_back w' 33 9 5 ⟨g, 0, none⟩ cap l Tryz.underlying33 Tryz.underlying5 Tryz.underlying9 fun j hj => ?_
    have e : (⟨g, 0, none⟩ : Addr).add j = ⟨g, j, none⟩ := by unfold Addr.add; split <;> simp_all
    rw [e, hE.cell (p := ⟨g, j, none⟩) hlt id, h.cellAt j (by omega)]
    simp [bytesV, hj]
set_option maxRecDepth 100000 in
set_option maxHeartbeats 16000000 in
theorem walk (x : FObj) (v : Value) (w : World) (hx : ObjAt w x v) (hnum : ObjNums x) (hsm : ObjSmall x) (hs : (objL x).length ≤ 9437184) (hev : ErrVar w) (hmv : MaxVar w) :
    Calls Tryz.prog 3 #[v] w fun e w' => e = .returned (.bool true) ∧ Ext w w' := by
  have hmay := fun (u : World) (hE : Ext w u) => mayo.may_any x v u (ObjAt.ext hE hx) hsm (hev.ext hE) (hmv.ext hE)
  have hput := fun (u : World) (hE : Ext w u) => objw.put_any x v u (mayObjB x) (ObjAt.ext hE hx) hnum (by omega) (fun u2 hE2 => mayo.may_any x v u2 (ObjAt.ext (hE.ext hE2) hx) hsm (hev.ext (hE.ext hE2)) (hmv.ext (hE.ext hE2)))
  have hrm := fun (u : World) (hE : Ext w u) => rmayo.may_any x v u (ObjAt.ext hE hx) hsm
  have hby := fun (u : World) (hE : Ext w u) => obj.bytes_any x v u (ObjAt.ext hE hx) hnum (by omega)
  have hpos := objL_pos x
  unfold objw.PutPost at hput
  obtain ⟨fa, am, fc, cm, ia, ic, ca, cc, ra, rc, pa, pc, la, lc, ha, hc, rfl, -⟩ := hx.ex
  clear hx hnum hsm hs hev hmv
  generalize mayObjB x = M at *
  generalize objL x = L at *
  obtain ⟨xf, xi, xc, xr, op, ol, oh, lo, hi, lf, hf⟩ := x
  simp only at *
  obtain ⟨n1, hn1⟩ : ∃ n, xf.vars.length = n := ⟨_, rfl⟩
  obtain ⟨n2, hn2⟩ : ∃ n, xf.procs.length = n := ⟨_, rfl⟩
  obtain ⟨xn, hxn⟩ : ∃ n, xf.modn = n := ⟨_, rfl⟩
  obtain ⟨ni, hni⟩ : ∃ n, xi.length = n := ⟨_, rfl⟩
  obtain ⟨nc, hnc⟩ : ∃ n, xc.length = n := ⟨_, rfl⟩
  obtain ⟨nr, hnr⟩ : ∃ n, xr.length = n := ⟨_, rfl⟩
  obtain ⟨np, hnp⟩ : ∃ n, op.length = n := ⟨_, rfl⟩
  obtain ⟨nl, hnl⟩ : ∃ n, ol.length = n := ⟨_, rfl⟩
  obtain ⟨nh, hnh⟩ : ∃ n, oh.length = n := ⟨_, rfl⟩
  rw [hn1, hn2, hxn, hni, hnc, hnr, hnp, hnl, hnh] at hmay hput hrm hby ⊢
  clear hn1 hn2 hxn hni hnc hnr hnp hnl hnh
  have HMAY := Lib.hid hmay
  have HPUT := Lib.hid hput
  have HRM := Lib.hid hrm
  have HBY := Lib.hid hby
  have HPOS := Lib.hid hpos
  clear hmay hput hrm hby hpos
  have hX0 : Blk (w.alloc (.cells #[.string xn, .slice fa n1 am, .slice fc n2 cm, .slice ia ni ic, .slice ca nc cc, .slice ra nr rc, .slice pa np pc, .slice la nl lc, .slice ha nh hc, .int .i64 lo, .int .i64 hi, .int .i64 lf, .int .i64 hf] 31)) w.heap.size #[.string xn, .slice fa n1 am, .slice fc n2 cm, .slice ia ni ic, .slice ca nc cc, .slice ra nr rc, .slice pa np pc, .slice la nl lc, .slice ha nh hc, .int .i64 lo, .int .i64 hi, .int .i64 lf, .int .i64 hf] 31 := Blk.made _ _ _
  have hE0 : Ext w (w.alloc (.cells #[.string xn, .slice fa n1 am, .slice fc n2 cm, .slice ia ni ic, .slice ca nc cc, .slice ra nr rc, .slice pa np pc, .slice la nl lc, .slice ha nh hc, .int .i64 lo, .int .i64 hi, .int .i64 lf, .int .i64 hf] 31)) := (Chg.refl _ _).alloc _
  go_enter Tryz.func3, Tryz.ntmps3
  go_wp2_with fail
  refine (HMAY.out _ hE0).mono ?_
  rintro e w1 ⟨rfl, hE⟩
  have hX1 := hX0.ext hE
  have hE1 := hE0.ext hE
  clear hX0 hE0 hE
  have hxc := hX1.cell
  have hxf := hX1.frozen
  have hxl := hX1.lt
  go_wp2_with fail
  refine (HPUT.out _ hE1).mono ?_
  rintro e w2 ⟨hE, hor⟩
  clear hxc hxf hxl
  have hX2 := hX1.ext hE
  have hE2 := hE1.ext hE
  clear hX1 hE1 hE
  have hxc := hX2.cell
  have hxf := hX2.frozen
  have hxl := hX2.lt
  rcases hor with ⟨rfl, rfl⟩ | ⟨rfl, r, rfl, hown⟩
  · go_wp2_with fail
    refine (HRM.out _ hE2).mono ?_
    rintro e w3 ⟨rfl, hE⟩
    have hE3 := hE2.ext hE
    clear hE hX2 hE2 hxc hxf hxl
    go_wp2_with fail
    go_ret
    exact ⟨rfl, hE3⟩
  · obtain ⟨g, cap, rfl, hcv⟩ := row_text hown HPOS.out
    have HCV := Lib.hid hcv
    clear hcv hown
    go_wp2_with fail
    refine (HRM.out _ hE2).mono ?_
    rintro e w3 ⟨rfl, hE⟩
    clear hxc hxf hxl
    have hX3 := hX2.ext hE
    have hE3 := hE2.ext hE
    have HCV2 := Lib.hid (fun w' h => HCV.out w' (hE.ext h))
    clear hX2 hE2 hE HCV
    have hxc := hX3.cell
    have hxf := hX3.frozen
    have hxl := hX3.lt
    go_wp2_with fail
    refine (HBY.out _ hE3).mono ?_
    rintro e w4 ⟨rfl, hE⟩
    have hcv := HCV2.out _ hE
    have hE4 := hE3.ext hE
    clear hE3 hE hX3 hxc hxf hxl
    go_wp2_with fail
    go_ret
    exact ⟨by simp, hE4⟩
end objlaw
end Go.Proofs.YtpcihajmcejliaaGreatDoor
