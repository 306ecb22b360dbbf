/- Objects that come in, opened. -/
import Derived.Test.YtpcihajmcejliabDoorObjOpen
import Derived.Test.YtpcihajmcejliabDoorLinkC
namespace Go.Proofs.YtpcihajmcejliabDoor.objOpen
open Go.ChangeShapes Go.WideShapes Go.Deep Go.RowKit Go.Proofs.YtpcihajmcejliabDoor
variable {H : Type} {enc : TypeId × Value → H} {w : World} {base : Nat} {spare : Nat → Bool} {held : Bool} {bk : DataW H → Nat} {bka : List (DataW H) → Nat}
def lmax (l : List Nat) : Nat := l.foldr max 0
theorem lmax_le {l : List Nat} {M : Nat} : lmax l ≤ M ↔ ∀ x ∈ l, x ≤ M := by
  induction l with
  | nil => simp [lmax]
  | cons a r ih =>
    have e : lmax (a :: r) = max a (lmax r) := rfl
    rw [e, Nat.max_le, ih]
    simp
/-- how great an object's parts are -/
def gO (x : FObj) : Nat :=
  lmax ([x.imports.length, x.code.length, x.relocs.length, x.procs.length, x.lows.length, x.highs.length] ++ ((x.face :: x.imports).map fun f => f.vars.length + f.procs.length) ++ (x.relocs.map fun r => max r.modn.size r.name.size))
theorem small_of {x : FObj} {M : Nat} (h : gO x ≤ M) (hM : M ≤ 1048576) : ObjSmall x := by
  unfold gO at h
  rw [lmax_le] at h
  have h1 : ∀ y ∈ [x.imports.length, x.code.length, x.relocs.length, x.procs.length, x.lows.length, x.highs.length], y ≤ M := fun y hy => h y (by rw [List.mem_append, List.mem_append]; exact .inl (.inl hy))
  refine ⟨?_, ?_, ?_, ?_, ?_, ?_, fun f hf => ?_, fun r hr => ?_⟩
  · have := h1 x.imports.length (by simp); omega
  · have := h1 x.code.length (by simp); omega
  · have := h1 x.relocs.length (by simp); omega
  · have := h1 x.procs.length (by simp); omega
  · have := h1 x.lows.length (by simp); omega
  · have := h1 x.highs.length (by simp); omega
  · have := h _ (by rw [List.mem_append, List.mem_append]; exact .inl (.inr (List.mem_map.2 ⟨f, hf, rfl⟩))); omega
  · have := h _ (by rw [List.mem_append, List.mem_append]; exact .inr (List.mem_map.2 ⟨r, hr, rfl⟩)); omega
set_option maxRecDepth 100000 in
set_option maxHeartbeats 4000000 in
theorem open_objC (B : Bulk bk bka) {cs : List Value} {y : DataW H × List MemPlace} {n : Nat} (hy : DataW.trod enc Tryd.prog w base spare held n 39 cs = some y) :
    ∃ (x : FObj), (∀ b o, (∀ j, j < 13 → w.cell? ⟨b, o + j, none⟩ = cs[j]?) → ObjIn w b o x) ∧ gO x ≤ bk y.1 := by
  obtain ⟨xs, n', _, hxx, hl, hlen, hf⟩ := DataW.trod_struct Tryd.underlying39 hy
  rw [cO] at hl
  replace hlen : xs.length = 11 := hlen
  match cs, hl, xs, hlen with
  | [v0, v1, v2, v3, v4, v5, v6, v7, v8, v9, v10, v11, v12], _, [y0, y1, y2, y3, y4, y5, y6, y7, y8, y9, y10], _ =>
    have g0 := hf 0 _ rfl
    have g1 := hf 1 _ rfl
    have g2 := hf 2 _ rfl
    have g3 := hf 3 _ rfl
    have g4 := hf 4 _ rfl
    have g5 := hf 5 _ rfl
    have g6 := hf 6 _ rfl
    have g7 := hf 7 _ rfl
    have g8 := hf 8 _ rfl
    have g9 := hf 9 _ rfl
    have g10 := hf 10 _ rfl
    simp only [List.getElem?_cons_zero, List.getElem?_cons_succ] at g0 g1 g2 g3 g4 g5 g6 g7 g8 g9 g10
    obtain ⟨xf, fa, fm, fc, fd, e0, F1, F2, F3, F4⟩ := open_face B g0
    obtain ⟨a1, l1, c1, e1, I1, -, -, N1, L1, K1, G1⟩ := open_faces B g1
    obtain ⟨a2, l2, c2, e2, I2, -, -, N2, L2, K2, -⟩ := open_code B g2
    obtain ⟨a3, l3, c3, e3, I3, -, -, N3, L3, K3, G3⟩ := open_relocs B g3
    obtain ⟨a4, l4, c4, e4, I4, -, -, -, L4, K4, -⟩ := open_places B g4
    obtain ⟨a5, l5, c5, e5, I5, -, -, -, L5, K5, -⟩ := open_places B g5
    obtain ⟨a6, l6, c6, e6, I6, -, -, -, L6, K6, -⟩ := open_places B g6
    obtain ⟨i7, e7, f7, k7⟩ := DataW.trod_int Tryd.underlying3 g7
    obtain ⟨i8, e8, f8, k8⟩ := DataW.trod_int Tryd.underlying3 g8
    obtain ⟨i9, e9, f9, k9⟩ := DataW.trod_int Tryd.underlying3 g9
    obtain ⟨i10, e10, f10, k10⟩ := DataW.trod_int Tryd.underlying3 g10
    clear g0 g1 g2 g3 g4 g5 g6 g7 g8 g9 g10 hf
    cases e0; cases e7; cases e8; cases e9; cases e10
    subst e1 e2 e3 e4 e5 e6
    have hdd : y.1 = .agg [y0.1, y1.1, y2.1, y3.1, y4.1, y5.1, y6.1, y7.1, y8.1, y9.1, y10.1] := by have := congrArg Prod.fst hxx; simpa using this
    have hb : bk y0.1 + (bk y1.1 + (bk y2.1 + (bk y3.1 + (bk y4.1 + (bk y5.1 + (bk y6.1 + 5)))))) ≤ bk y.1 := by
      rw [hdd, f7, f8, f9, f10]
      simp only [B.agg, B.cons, B.int, B.none]
      omega
    refine ⟨⟨xf, l1, l2, l3, l4, l5, l6, i7, i8, i9, i10⟩, fun b o hc => ⟨fa, fm, fc, fd, a1, c1, a2, c2, a3, c3, a4, c4, a5, c5, a6, c6, hc 0 (by decide), hc 1 (by decide), hc 2 (by decide), hc 3 (by decide), hc 4 (by decide), hc 5 (by decide), hc 6 (by decide), hc 7 (by decide), hc 8 (by decide), hc 9 (by decide), hc 10 (by decide), hc 11 (by decide), hc 12 (by decide), ⟨fa, fm, fc, fd, a1, c1, a2, c2, a3, c3, a4, c4, a5, c5, a6, c6, rfl, F1, I1, I2, I3, I4, I5, I6⟩⟩, ?_⟩
    unfold gO
    rw [lmax_le]
    intro z hz
    rw [List.mem_append, List.mem_append] at hz
    rcases hz with (hz | hz) | hz
    · simp only [List.mem_cons, List.mem_nil_iff, or_false] at hz
      rcases hz with rfl | rfl | rfl | rfl | rfl | rfl <;> omega
    · obtain ⟨f, hf, rfl⟩ := List.mem_map.1 hz
      rcases List.mem_cons.1 hf with e | hf
      · rw [e]; show xf.vars.length + xf.procs.length ≤ _; omega
      · have := G1 f hf; simp only at this; omega
    · obtain ⟨r, hr, rfl⟩ := List.mem_map.1 hz
      have := G3 r hr
      simp only at this
      rw [Nat.max_le]
      omega
set_option maxRecDepth 100000 in
theorem open_objs (B : Bulk bk bka) {fuel : Nat} {u : Value} {x : DataW H × List MemPlace} (h : DataW.trod enc Tryd.prog w base spare held fuel 22 [u] = some x) (hd : bk x.1 ≤ 1048576) :
    ∃ a l cap, u = .slice a l.length cap ∧ AllIn 13 ObjIn w a l ∧ l.length ≤ cap ∧ cap ≤ maxLen ∧ ∀ z ∈ l, ObjSmall z := by
  obtain ⟨a, l, cap, rfl, h1, h2, h3, -, -, -, h4⟩ := open_rows B (In := ObjIn) (N := fun _ => True) (f := fun _ : FObj => ([] : List UInt8)) (g := gO) (k := 13) (by decide) Tryd.underlying22 cO h fun n cs y hy => by
    obtain ⟨z, h1, h2⟩ := open_objC B hy
    exact ⟨z, fun b o _ hc => h1 b o hc, trivial, Nat.zero_le _, h2⟩
  exact ⟨a, l, cap, rfl, h1, h2, h3, fun z hz => small_of (h4 z hz) hd⟩
end Go.Proofs.YtpcihajmcejliabDoor.objOpen
