/- A face that comes in, opened: its module's name, the rows of its variables and of its procedures. -/
import Derived.Test.YtpcihajmcejliaaDoorFaceLaw
import Derived.Deep.Slices
import Derived.ChangeArms
import Derived.ChangeShapes
import Derived.WideShapes
import Derived.DataReads
import Derived.SizedLaws
import Derived.Shelf.Vars
namespace Go.Proofs.YtpcihajmcejliaaDoor.faceOpen
open Go.ChangeShapes Go.WideShapes Go.Deep Go.RowKit Go.Proofs.YtpcihajmcejliaaDoor
variable {H : Type} {enc : TypeId × Value → H} {w : World} {base : Nat} {spare : Nat → Bool} {held : Bool}
theorem cS : Tryd.prog.cellsOf 9 = 1 := by kernel_rfl
theorem cI : Tryd.prog.cellsOf 3 = 1 := by kernel_rfl
theorem cB : Tryd.prog.cellsOf 4 = 1 := by kernel_rfl
theorem cL : Tryd.prog.cellsOf 49 = 1 := by kernel_rfl
theorem cLV : Tryd.prog.cellsOf 31 = 1 := by kernel_rfl
theorem cLP : Tryd.prog.cellsOf 32 = 1 := by kernel_rfl
theorem cV : Tryd.prog.cellsOf 47 = 4 := by kernel_rfl
theorem cP : Tryd.prog.cellsOf 51 = 6 := by kernel_rfl
theorem cF : Tryd.prog.cellsOf 34 = 3 := by kernel_rfl
theorem bV : Tryd.prog.bytesOf 47 = 40 := by kernel_rfl
theorem bP : Tryd.prog.bytesOf 51 = 72 := by kernel_rfl
/-- rows of elements, by what one of them is -/
theorem open_rows {α : Type} [Inhabited α] {In : World → Nat → Nat → α → Prop} {t e : TypeId} {k fuel : Nat} {u : Value} {x : DataW H × List MemPlace} (hk : 0 < k) (ht : Tryd.prog.underlying t = some (.slice e)) (hc : Tryd.prog.cellsOf e = k)
    (h : DataW.trod enc Tryd.prog w base spare held fuel t [u] = some x)
    (each : ∀ (n : Nat) (cs : List Value) (y : DataW H × List MemPlace), DataW.trod enc Tryd.prog w base spare held n e cs = some y → ∃ z : α, ∀ b o, b < w.heap.size → (∀ j, j < k → w.cell? ⟨b, o + j, none⟩ = cs[j]?) → In w b o z) :
    ∃ a l cap, u = .slice a l.length cap ∧ AllIn k In w a l ∧ l.length ≤ cap ∧ cap ≤ maxLen ∧ (l = [] ∨ ∃ E S, x.1 = .slice E S ∧ E.length = l.length) := by
  rcases open_slice ht h with ⟨h0, rfl⟩ | ⟨a, len, cap, m, n, D, Pl, h0, hb, hl, hm, hmm, rfl, hx⟩
  · cases h0
    exact ⟨none, [], 0, rfl, fun j hj => absurd hj (Nat.not_lt_zero _), Nat.zero_le _, Nat.zero_le _, .inl rfl⟩
  · cases h0
    have hlm : len ≤ m := by rw [hmm]; split <;> omega
    rw [hc] at hx
    have hZ : ∀ i, i < m → ∃ z : α, ∀ b o, a = ⟨b, o, none⟩ → b < w.heap.size → In w b (o + i * k) z := by
      intro i hi
      obtain ⟨cs', h1, h2⟩ := hx i hi
      obtain ⟨z, hz⟩ := each n cs' _ h2
      refine ⟨z, fun b o e hb => hz b _ hb fun j hj => ?_⟩
      subst e
      obtain ⟨_, _, h3⟩ := World.cells?_some h1
      have := h3 j hj
      rw [add_add] at this
      rw [← this]
      unfold Addr.add
      split
      · rename_i h0
        rw [show o + i * k + j = o by omega]
      · simp [Nat.add_assoc]
    obtain ⟨Z, hZ⟩ := choose_lt hZ
    refine ⟨some a, (List.range len).map Z, cap, by simp, fun j hj => ?_, by simpa using hl, hm, .inr ⟨_, _, rfl, by simp⟩⟩
    have hj' : j < len := by simpa using hj
    obtain ⟨b, off, spot⟩ := a
    obtain ⟨cs', h1, _⟩ := hx 0 (by omega)
    obtain ⟨_, hlen, h3⟩ := World.cells?_some h1
    have h4 := h3 0 hk
    simp [Addr.add] at h4
    rw [List.getElem?_eq_getElem (by omega)] at h4
    have hs := World.cell?_spot h4
    simp only at hs
    subst hs
    have hblt := World.block_lt_of_cell? w _ h4
    refine ⟨b, off, rfl, hblt, ?_⟩
    simpa using hZ j (by omega) b off rfl hblt
set_option maxRecDepth 100000 in
theorem open_introw {fuel : Nat} {u : Value} {x : DataW H × List MemPlace} (h : DataW.trod enc Tryd.prog w base spare held fuel 49 [u] = some x) :
    ∃ a l cap, u = .slice a l.length cap ∧ AllIn 1 IntIn w a l ∧ l.length ≤ cap ∧ cap ≤ maxLen := by
  obtain ⟨a, l, cap, h1, h2, h3, h4, _⟩ := open_rows (In := IntIn) (k := 1) (by decide) Tryd.underlying49 cI h fun n cs y hy => by
    obtain ⟨z, rfl, _⟩ := DataW.trod_int Tryd.underlying3 hy
    exact ⟨z, fun b o _ hc => hc 0 (by decide)⟩
  exact ⟨a, l, cap, h1, h2, h3, h4⟩
set_option maxRecDepth 100000 in
theorem open_varrow {fuel : Nat} {u : Value} {x : DataW H × List MemPlace} (h : DataW.trod enc Tryd.prog w base spare held fuel 31 [u] = some x) :
    ∃ a l cap, u = .slice a l.length cap ∧ AllIn 4 VarIn w a l ∧ l.length ≤ cap ∧ cap ≤ maxLen ∧ (l = [] ∨ ∃ E S, x.1 = .slice E S ∧ E.length = l.length) :=
  open_rows (In := VarIn) (k := 4) (by decide) Tryd.underlying31 cV h fun n cs y hy => by
    obtain ⟨xs, n', _, _, hl, hlen, hf⟩ := DataW.trod_struct Tryd.underlying47 hy
    rw [cV] at hl
    replace hlen : xs.length = 4 := hlen
    match cs, hl, xs, hlen with
    | [v0, v1, v2, v3], _, [y0, y1, y2, y3], _ =>
      have g0 := hf 0 _ rfl
      have g1 := hf 1 _ rfl
      have g2 := hf 2 _ rfl
      have g3 := hf 3 _ rfl
      simp only [List.getElem?_cons_zero, List.getElem?_cons_succ] at g0 g1 g2 g3
      obtain ⟨s, e0, _, hs⟩ := DataW.trod_string Tryd.underlying9 g0
      obtain ⟨b1, e1, _⟩ := DataW.trod_bool Tryd.underlying4 g1
      obtain ⟨i2, e2, _⟩ := DataW.trod_int Tryd.underlying3 g2
      obtain ⟨i3, e3, _⟩ := DataW.trod_int Tryd.underlying3 g3
      cases e0; cases e1; cases e2; cases e3
      exact ⟨⟨s, b1, i2, i3⟩, fun b o _ hc => ⟨hc 0 (by decide), hc 1 (by decide), hc 2 (by decide), hc 3 (by decide), hs⟩⟩
set_option maxRecDepth 100000 in
theorem open_procrow {fuel : Nat} {u : Value} {x : DataW H × List MemPlace} (h : DataW.trod enc Tryd.prog w base spare held fuel 32 [u] = some x) :
    ∃ a l cap, u = .slice a l.length cap ∧ AllIn 6 ProcIn w a l ∧ l.length ≤ cap ∧ cap ≤ maxLen ∧ (l = [] ∨ ∃ E S, x.1 = .slice E S ∧ E.length = l.length) :=
  open_rows (In := ProcIn) (k := 6) (by decide) Tryd.underlying32 cP h fun n cs y hy => by
    obtain ⟨xs, n', _, _, hl, hlen, hf⟩ := DataW.trod_struct Tryd.underlying51 hy
    rw [cP] at hl
    replace hlen : xs.length = 6 := hlen
    match cs, hl, xs, hlen with
    | [v0, v1, v2, v3, v4, v5], _, [y0, y1, y2, y3, y4, y5], _ =>
      have g0 := hf 0 _ rfl
      have g1 := hf 1 _ rfl
      have g2 := hf 2 _ rfl
      have g3 := hf 3 _ rfl
      have g4 := hf 4 _ rfl
      have g5 := hf 5 _ rfl
      simp only [List.getElem?_cons_zero, List.getElem?_cons_succ] at g0 g1 g2 g3 g4 g5
      obtain ⟨s, e0, _, hs⟩ := DataW.trod_string Tryd.underlying9 g0
      obtain ⟨b1, e1, _⟩ := DataW.trod_bool Tryd.underlying4 g1
      obtain ⟨a2, l2, c2, e2, h2, h3, h4⟩ := open_introw g2
      obtain ⟨i3, e3, _⟩ := DataW.trod_int Tryd.underlying3 g3
      obtain ⟨b4, e4, _⟩ := DataW.trod_bool Tryd.underlying4 g4
      obtain ⟨i5, e5, _⟩ := DataW.trod_int Tryd.underlying3 g5
      cases e0; cases e1; subst e2; cases e3; cases e4; cases e5
      exact ⟨⟨s, b1, l2, i3, b4, i5⟩, fun b o _ hc => ⟨hc 0 (by decide), hc 1 (by decide), ⟨a2, c2, hc 2 (by decide), h2, h3, h4⟩, hc 3 (by decide), hc 4 (by decide), hc 5 (by decide), hs⟩⟩
set_option maxRecDepth 100000 in
/-- A face that comes in. -/
theorem open_face {v : Value} {d : DataW H} {p : List MemPlace} {r : Reach} {b0 : Nat} (hv : Value.okWide Tryd.prog w r b0 34 v) (h : DataW.Trod enc Tryd.prog w base spare held 34 v d p) (hw : (d.weights Tryd.prog 34).all (· ≤ reachBytes) = true) :
    ∃ x : FFace, FaceAt w x v ∧ x.vars.length + x.procs.length < maxLen := by
  obtain ⟨cs, rfl, hsz⟩ := okWide_struct Tryd.underlying34 hv
  rw [cF] at hsz
  obtain ⟨fuel, hf⟩ := h
  obtain ⟨xs, n, _, hx, hl, hlen, hf⟩ := DataW.trod_struct Tryd.underlying34 hf
  obtain ⟨l⟩ := cs
  replace hsz : l.length = 3 := hsz
  replace hlen : xs.length = 3 := hlen
  match l, hsz, xs, hlen with
  | [v0, v1, v2], _, [y0, y1, y2], _ =>
    have g0 := hf 0 _ rfl
    have g1 := hf 1 _ rfl
    have g2 := hf 2 _ rfl
    simp only [Value.cells, List.getElem?_cons_zero, List.getElem?_cons_succ] at g0 g1 g2
    obtain ⟨s, e0, _, hs⟩ := DataW.trod_string Tryd.underlying9 g0
    obtain ⟨a1, l1, c1, rfl, h1, h1c, h1m, w1⟩ := open_varrow g1
    obtain ⟨a2, l2, c2, rfl, h2, h2c, h2m, w2⟩ := open_procrow g2
    cases e0
    refine ⟨⟨s, l1, l2⟩, ⟨a1, c1, a2, c2, rfl, h1, h2, hs, h1c, h1m, h2c, h2m⟩, ?_⟩
    have hd : d = .agg [y0.1, y1.1, y2.1] := by have := congrArg Prod.fst hx; simpa using this
    subst hd
    rw [List.all_eq_true] at hw
    have k1 : l1.length * 40 ≤ reachBytes := by
      rcases w1 with rfl | ⟨E, S, e, hE⟩
      · simp
      · have := hw ((E.length + S.length) * Tryd.prog.bytesOf 47) (by simp [DataW.weights, DataW.weightsEach, Tryd.underlying34, Tryd.underlying31, e])
        simp only [bV, decide_eq_true_eq] at this
        omega
    have k2 : l2.length * 72 ≤ reachBytes := by
      rcases w2 with rfl | ⟨E, S, e, hE⟩
      · simp
      · have := hw ((E.length + S.length) * Tryd.prog.bytesOf 51) (by simp [DataW.weights, DataW.weightsEach, Tryd.underlying34, Tryd.underlying32, e])
        simp only [bP, decide_eq_true_eq] at this
        omega
    have := reachBytes_lt
    show l1.length + l2.length < maxLen
    unfold maxLen
    omega
end Go.Proofs.YtpcihajmcejliaaDoor.faceOpen
