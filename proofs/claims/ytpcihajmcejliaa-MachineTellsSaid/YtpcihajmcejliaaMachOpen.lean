/- An image that comes in, and rows of numbers, opened. -/
import Derived.Test.YtpcihajmcejliaaMachRunP
import Derived.Test.YtpcihajmcejliaaMachRun
import Derived.Deep.Slices
import Derived.ChangeArms
import Derived.ChangeShapes
import Derived.ChangeSlices
import Derived.WideShapes
import Derived.DataReads
import Derived.SizedLaws
namespace Go.Proofs.Ytpcihajmcejliaa.machOpen
open Go.ChangeShapes Go.WideShapes Go.Deep Go.RowKit Go.Proofs.Ytpcihajmcejliaa
variable {H : Type} {enc : TypeId × Value → H} {w : World} {base : Nat} {spare : Nat → Bool} {held : Bool}
theorem cI : Try.prog.cellsOf 3 = 1 := by kernel_rfl
theorem cN : Try.prog.cellsOf 2 = 1 := by kernel_rfl
theorem cL : Try.prog.cellsOf 28 = 1 := by kernel_rfl
theorem cO : Try.prog.cellsOf 53 = 5 := by kernel_rfl
theorem cM : Try.prog.cellsOf 30 = 3 := by kernel_rfl
def RowsIn {α : Type} (k : Nat) (In : World → Nat → Nat → α → Prop) (w : World) (a : Option Addr) (l : List α) : Prop :=
  ∀ j (hj : j < l.length), ∃ b o, a = some ⟨b, o, none⟩ ∧ b < w.heap.size ∧ In w b (o + j * k) l[j]
/-- rows of elements, by what one of them is -/
theorem open_rows {α : Type} [Inhabited α] {In : World → Nat → Nat → α → Prop} {t e : TypeId} {k fuel : Nat} {u : Value} {x : DataW H × List MemPlace} (hk : 0 < k) (ht : Try.prog.underlying t = some (.slice e)) (hc : Try.prog.cellsOf e = k)
    (h : DataW.trod enc Try.prog w base spare held fuel t [u] = some x)
    (each : ∀ (n : Nat) (cs : List Value) (y : DataW H × List MemPlace), DataW.trod enc Try.prog w base spare held n e cs = some y → ∃ z : α, ∀ b o, b < w.heap.size → (∀ j, j < k → w.cell? ⟨b, o + j, none⟩ = cs[j]?) → In w b o z) :
    ∃ a l cap, u = .slice a l.length cap ∧ RowsIn k In w a l ∧ l.length ≤ cap ∧ cap ≤ maxLen := by
  rcases open_slice ht h with ⟨h0, rfl⟩ | ⟨a, len, cap, m, n, D, Pl, h0, hb, hl, hm, hmm, rfl, hx⟩
  · cases h0
    exact ⟨none, [], 0, rfl, fun j hj => absurd hj (Nat.not_lt_zero _), Nat.zero_le _, Nat.zero_le _⟩
  · cases h0
    have hlm : len ≤ m := by rw [hmm]; split <;> omega
    rw [hc] at hx
    have hZ : ∀ i, i < m → ∃ z : α, ∀ b o, a = ⟨b, o, none⟩ → b < w.heap.size → In w b (o + i * k) z := by
      intro i hi
      obtain ⟨cs', h1, h2⟩ := hx i hi
      obtain ⟨z, hz⟩ := each n cs' _ h2
      refine ⟨z, fun b o e hb => hz b _ hb fun j hj => ?_⟩
      subst e
      obtain ⟨_, _, h3⟩ := World.cells?_some h1
      have := h3 j hj
      rw [add_add] at this
      rw [← this]
      unfold Addr.add
      split
      · rename_i h0
        rw [show o + i * k + j = o by omega]
      · simp [Nat.add_assoc]
    obtain ⟨Z, hZ⟩ := choose_lt hZ
    refine ⟨some a, (List.range len).map Z, cap, by simp, fun j hj => ?_, by simpa using hl, hm⟩
    have hj' : j < len := by simpa using hj
    obtain ⟨b, off, spot⟩ := a
    obtain ⟨cs', h1, _⟩ := hx 0 (by omega)
    obtain ⟨_, hlen, h3⟩ := World.cells?_some h1
    have h4 := h3 0 hk
    simp [Addr.add] at h4
    rw [List.getElem?_eq_getElem (by omega)] at h4
    have hs := World.cell?_spot h4
    simp only at hs
    subst hs
    have hblt := World.block_lt_of_cell? w _ h4
    refine ⟨b, off, rfl, hblt, ?_⟩
    simpa using hZ j (by omega) b off rfl hblt
theorem ok_wf {n : Int} (h : (Lit.int .i64 n).wf = true) : okI n := by
  unfold okI
  simpa [Lit.wf, IntKind.min, IntKind.max, IntKind.signed, IntKind.bits] using h
def InsIn (w : World) (b o : Nat) (i : Ins) : Prop :=
  (w.cell? ⟨b, o, none⟩ = some (.int .i64 i.op) ∧ w.cell? ⟨b, o + 1, none⟩ = some (.int .i64 i.a) ∧ w.cell? ⟨b, o + 2, none⟩ = some (.int .i64 i.b) ∧ w.cell? ⟨b, o + 3, none⟩ = some (.int .i64 i.c) ∧ w.cell? ⟨b, o + 4, none⟩ = some (.int .i64 i.n)) ∧ okI i.n
instance : Inhabited Ins := ⟨⟨0, 0, 0, 0, 0⟩⟩
set_option maxRecDepth 100000 in
theorem open_code {fuel : Nat} {u : Value} {x : DataW H × List MemPlace} (h : DataW.trod enc Try.prog w base spare held fuel 28 [u] = some x) :
    ∃ code, CodeAt w u code ∧ ∀ i ∈ code, okI i.n := by
  obtain ⟨a, l, cap, rfl, h2, h3, h4⟩ := open_rows (In := InsIn) (k := 5) (by decide) Try.underlying28 cO h fun n cs y hy => by
    obtain ⟨xs, n', _, _, hl, hlen, hf⟩ := DataW.trod_struct Try.underlying53 hy
    rw [cO] at hl
    replace hlen : xs.length = 5 := hlen
    match cs, hl, xs, hlen with
    | [v0, v1, v2, v3, v4], _, [y0, y1, y2, y3, y4], _ =>
      have g0 := hf 0 _ rfl
      have g1 := hf 1 _ rfl
      have g2 := hf 2 _ rfl
      have g3 := hf 3 _ rfl
      have g4 := hf 4 _ rfl
      simp only [List.getElem?_cons_zero, List.getElem?_cons_succ] at g0 g1 g2 g3 g4
      obtain ⟨i0, e0, _⟩ := DataW.trod_int Try.underlying3 g0
      obtain ⟨i1, e1, _⟩ := DataW.trod_int Try.underlying3 g1
      obtain ⟨i2, e2, _⟩ := DataW.trod_int Try.underlying3 g2
      obtain ⟨i3, e3, _⟩ := DataW.trod_int Try.underlying3 g3
      obtain ⟨i4, e4, _, wf4⟩ := DataW.trod_int Try.underlying2 g4
      cases e0; cases e1; cases e2; cases e3; cases e4
      exact ⟨⟨i0, i1, i2, i3, i4⟩, fun b o _ hc => ⟨⟨hc 0 (by decide), hc 1 (by decide), hc 2 (by decide), hc 3 (by decide), hc 4 (by decide)⟩, ok_wf wf4⟩⟩
  refine ⟨l, ?_, fun i hi => ?_⟩
  · by_cases h0 : 0 < l.length
    · obtain ⟨b, o, rfl, hb, -⟩ := h2 0 h0
      refine .inr ⟨b, o, cap, rfl, hb, by unfold maxLen at h4; omega, fun k hk => ?_⟩
      obtain ⟨b', o', e, -, hin⟩ := h2 k hk
      simp only [Option.some.injEq, Addr.mk.injEq] at e
      obtain ⟨rfl, rfl, -⟩ := e
      exact hin.1
    · have hl : l = [] := List.eq_nil_of_length_eq_zero (by omega)
      subst hl
      exact .inl ⟨a, cap, rfl, rfl⟩
  · obtain ⟨k, hk, rfl⟩ := List.getElem_of_mem hi
    obtain ⟨b, o, -, -, hin⟩ := h2 k hk
    exact hin.2
set_option maxRecDepth 100000 in
theorem open_image {v : Value} {d : DataW H} {p : List MemPlace} {r : Reach} {b0 : Nat} (hv : Value.okWide Try.prog w r b0 30 v) (h : DataW.Trod enc Try.prog w base spare held 30 v d p) :
    ∃ u code lo hi, v = .agg #[u, .int .i64 lo, .int .i64 hi] ∧ CodeAt w u code ∧ ∀ i ∈ code, okI i.n := by
  obtain ⟨cs, rfl, hsz⟩ := okWide_struct Try.underlying30 hv
  rw [cM] at hsz
  obtain ⟨fuel, hf⟩ := h
  obtain ⟨xs, n, _, hx, hl, hlen, hf⟩ := DataW.trod_struct Try.underlying30 hf
  obtain ⟨l⟩ := cs
  replace hsz : l.length = 3 := hsz
  replace hlen : xs.length = 3 := hlen
  match l, hsz, xs, hlen with
  | [v0, v1, v2], _, [y0, y1, y2], _ =>
    have g0 := hf 0 _ rfl
    have g1 := hf 1 _ rfl
    have g2 := hf 2 _ rfl
    simp only [Value.cells, List.getElem?_cons_zero, List.getElem?_cons_succ] at g0 g1 g2
    obtain ⟨code, hc, hok⟩ := open_code g0
    obtain ⟨i1, e1, _⟩ := DataW.trod_int Try.underlying3 g1
    obtain ⟨i2, e2, _⟩ := DataW.trod_int Try.underlying3 g2
    cases e1; cases e2
    exact ⟨v0, code, i1, i2, rfl, hc, hok⟩
set_option maxRecDepth 100000 in
theorem open_nums {v : Value} {d : DataW H} {p : List MemPlace} {r : Reach} {b0 : Nat} (hv : Value.okWide Try.prog w r b0 31 v) (h : DataW.Trod enc Try.prog w base spare held 31 v d p) :
    ∃ l, InB w w.heap.size v l ∧ ∀ x ∈ l, okI x := by
  obtain ⟨a, len, cap, rfl⟩ := okWide_slice Try.underlying31 hv
  obtain ⟨fuel, hf⟩ := h
  rcases open_ints Try.underlying31 Try.underlying2 cN hf with ⟨hcs, -⟩ | ⟨a', len', cap', zs, hcs, _, hl, hm, hz, -, hcell, hwz⟩
  · simp [Value.cells] at hcs
    obtain ⟨rfl, rfl, rfl⟩ := hcs
    exact ⟨[], ⟨none, 0, rfl, fun k hk => absurd hk (Nat.not_lt_zero _)⟩, fun x hx => by cases hx⟩
  · simp [Value.cells] at hcs
    obtain ⟨rfl, rfl, rfl⟩ := hcs
    have hlz : len ≤ zs.length := by rw [hz]; split <;> omega
    have hll : (zs.take len).length = len := by simp; omega
    refine ⟨zs.take len, ⟨some a', cap, by rw [hll], fun k hk => ?_⟩, fun x hx => ok_wf (hwz x (List.mem_of_mem_take hx))⟩
    have hk' : k < len := by omega
    have hkz : k < zs.length := by omega
    have hc := hcell k hkz
    obtain ⟨g, o, spot⟩ := a'
    have hs : spot = none := by simpa [Addr.add] using World.cell?_spot (hcell 0 (by omega))
    subst hs
    have hadd : (⟨g, o, none⟩ : Addr).add k = ⟨g, o + k, none⟩ := by unfold Addr.add; split <;> simp_all
    rw [hadd] at hc
    refine ⟨g, o, rfl, World.block_lt_of_cell? w _ hc, ?_⟩
    rw [hc]
    simp [List.getD_eq_getElem?_getD, hkz]
end Go.Proofs.Ytpcihajmcejliaa.machOpen
