/- An object that comes in, opened: its rows, its numbers, how much it is. -/
import Derived.Test.YtpcihajmcejliabDoorObjMayA
import Derived.Deep.Slices
import Derived.ChangeArms
import Derived.ChangeShapes
import Derived.WideShapes
import Derived.DataReads
namespace Go.Proofs.YtpcihajmcejliabDoor.objOpen
open Go.ChangeShapes Go.WideShapes Go.Deep Go.RowKit Go.Proofs.YtpcihajmcejliabDoor
/-- a measure of data that counts each part -/
structure Bulk {H : Type} (bk : DataW H → Nat) (bka : List (DataW H) → Nat) : Prop where
  str : ∀ l, bk (.lit (.string l)) = l.length + 1
  int : ∀ k n, bk (.lit (.int k n)) = 1
  bool : ∀ b, bk (.lit (.bool b)) = 1
  nil : bk .nil = 1
  slice : ∀ E S, bk (.slice E S) = bka E + bka S + 1
  agg : ∀ E, bk (.agg E) = bka E + 1
  none : bka [] = 0
  cons : ∀ d r, bka (d :: r) = bk d + bka r
  pos : ∀ d, 1 ≤ bk d
variable {H : Type} {enc : TypeId × Value → H} {w : World} {base : Nat} {spare : Nat → Bool} {held : Bool} {bk : DataW H → Nat} {bka : List (DataW H) → Nat}
theorem sums {α : Type} (B : Bulk bk bka) (f : α → List UInt8) (Z : Nat → α) (D : Nat → DataW H) : ∀ is : List Nat, (∀ i ∈ is, (f (Z i)).length ≤ 9 * bk (D i)) → ((is.map Z).flatMap f).length ≤ 9 * bka (is.map D) := by
  intro is
  induction is with
  | nil => intro _; simp
  | cons i r ih =>
    intro h
    rw [List.map_cons, List.map_cons, List.flatMap_cons, List.length_append, B.cons]
    have h1 := h i (List.mem_cons_self ..)
    have h2 := ih fun j hj => h j (List.mem_cons_of_mem _ hj)
    omega
theorem parts (B : Bulk bk bka) (D : Nat → DataW H) : ∀ is : List Nat, is.length ≤ bka (is.map D) ∧ ∀ i ∈ is, bk (D i) ≤ bka (is.map D) := by
  intro is
  induction is with
  | nil => exact ⟨Nat.zero_le _, fun i hi => by cases hi⟩
  | cons i r ih =>
    rw [List.map_cons, B.cons, List.length_cons]
    have h1 := B.pos (D i)
    refine ⟨by have := ih.1; omega, fun j hj => ?_⟩
    rcases List.mem_cons.1 hj with rfl | hj
    · omega
    · have := ih.2 j hj; omega
/-- rows of elements, by what one of them is -/
theorem open_rows {α : Type} [Inhabited α] (B : Bulk bk bka) {In : World → Nat → Nat → α → Prop} {N : α → Prop} {f : α → List UInt8} {g : α → Nat} {t e : TypeId} {k fuel : Nat} {u : Value} {x : DataW H × List MemPlace} (hk : 0 < k) (ht : Tryd.prog.underlying t = some (.slice e)) (hc : Tryd.prog.cellsOf e = k)
    (h : DataW.trod enc Tryd.prog w base spare held fuel t [u] = some x)
    (each : ∀ (n : Nat) (cs : List Value) (y : DataW H × List MemPlace), DataW.trod enc Tryd.prog w base spare held n e cs = some y → ∃ z : α, (∀ b o, b < w.heap.size → (∀ j, j < k → w.cell? ⟨b, o + j, none⟩ = cs[j]?) → In w b o z) ∧ N z ∧ (f z).length ≤ 9 * bk y.1 ∧ g z ≤ bk y.1) :
    ∃ a l cap, u = .slice a l.length cap ∧ AllIn k In w a l ∧ l.length ≤ cap ∧ cap ≤ maxLen ∧ (∀ z ∈ l, N z) ∧ 8 + (l.flatMap f).length ≤ 9 * bk x.1 ∧ l.length ≤ bk x.1 ∧ ∀ z ∈ l, g z ≤ bk x.1 := by
  rcases open_slice ht h with ⟨h0, rfl⟩ | ⟨a, len, cap, m, n, D, Pl, h0, hb, hl, hm, hmm, rfl, hx⟩
  · cases h0
    refine ⟨none, [], 0, rfl, fun j hj => absurd hj (Nat.not_lt_zero _), Nat.zero_le _, Nat.zero_le _, ?_, ?_, Nat.zero_le _, ?_⟩
    · intro z hz; cases hz
    · show 8 + 0 ≤ 9 * bk .nil
      rw [B.nil]; omega
    · intro z hz; cases hz
  · cases h0
    have hlm : len ≤ m := by rw [hmm]; split <;> omega
    rw [hc] at hx
    have hZ : ∀ i, i < m → ∃ z : α, (∀ b o, a = ⟨b, o, none⟩ → b < w.heap.size → In w b (o + i * k) z) ∧ N z ∧ (f z).length ≤ 9 * bk (D i) ∧ g z ≤ bk (D i) := by
      intro i hi
      obtain ⟨cs', h1, h2⟩ := hx i hi
      obtain ⟨z, hz, hz2⟩ := each n cs' _ h2
      refine ⟨z, fun b o e hb => hz b _ hb fun j hj => ?_, hz2⟩
      subst e
      obtain ⟨_, _, h3⟩ := World.cells?_some h1
      have := h3 j hj
      rw [add_add] at this
      rw [← this]
      unfold Addr.add
      split
      · rename_i h0
        rw [show o + i * k + j = o by omega]
      · simp [Nat.add_assoc]
    obtain ⟨Z, hZ⟩ := choose_lt hZ
    have hp := parts B D (List.range len)
    have hsz : bk (DataW.slice ((List.range len).map D) ((List.range (m - len)).map fun j => D (len + j))) = bka ((List.range len).map D) + bka ((List.range (m - len)).map fun j => D (len + j)) + 1 := B.slice _ _
    have hZ2 : ∀ z ∈ (List.range len).map Z, ∃ i, i < len ∧ Z i = z := fun z hz => by
      obtain ⟨i, hi, e⟩ := List.mem_map.1 hz
      exact ⟨i, by simpa using hi, e⟩
    refine ⟨some a, (List.range len).map Z, cap, by simp, fun j hj => ?_, by simpa using hl, hm, fun z hz => ?_, ?_, ?_, fun z hz => ?_⟩
    · have hj' : j < len := by simpa using hj
      obtain ⟨b, off, spot⟩ := a
      obtain ⟨cs', h1, _⟩ := hx 0 (by omega)
      obtain ⟨_, hlen, h3⟩ := World.cells?_some h1
      have h4 := h3 0 hk
      simp [Addr.add] at h4
      rw [List.getElem?_eq_getElem (by omega)] at h4
      have hs := World.cell?_spot h4
      simp only at hs
      subst hs
      have hblt := World.block_lt_of_cell? w _ h4
      refine ⟨b, off, rfl, hblt, ?_⟩
      simpa using (hZ j (by omega)).1 b off rfl hblt
    · obtain ⟨i, hi, rfl⟩ := hZ2 z hz
      exact (hZ i (by omega)).2.1
    · have h1 := sums B f Z D (List.range len) fun i hi => (hZ i (by have : i < len := by simpa using hi
                                                                     omega)).2.2.1
      simp only
      omega
    · have := hp.1
      simp only [List.length_map, List.length_range] at this ⊢
      omega
    · obtain ⟨i, hi, rfl⟩ := hZ2 z hz
      have h1 := (hZ i (by omega)).2.2.2
      have h2 := hp.2 i (List.mem_range.2 hi)
      simp only
      omega
theorem cS : Tryd.prog.cellsOf 9 = 1 := by kernel_rfl
theorem cI : Tryd.prog.cellsOf 3 = 1 := by kernel_rfl
theorem cB : Tryd.prog.cellsOf 4 = 1 := by kernel_rfl
theorem cV : Tryd.prog.cellsOf 41 = 4 := by kernel_rfl
theorem cP : Tryd.prog.cellsOf 62 = 6 := by kernel_rfl
theorem cF : Tryd.prog.cellsOf 34 = 3 := by kernel_rfl
theorem cC : Tryd.prog.cellsOf 64 = 5 := by kernel_rfl
theorem cR : Tryd.prog.cellsOf 56 = 4 := by kernel_rfl
theorem cL : Tryd.prog.cellsOf 73 = 2 := by kernel_rfl
theorem cO : Tryd.prog.cellsOf 39 = 13 := by kernel_rfl
theorem ok_wf {n : Int} (h : (Lit.int .i64 n).wf = true) : inI n := by
  unfold inI
  simpa [Lit.wf, IntKind.min, IntKind.max, IntKind.signed, IntKind.bits] using h
theorem size_data (s : ByteArray) : s.data.toList.length = s.size := by rw [Array.length_toList]; rfl
set_option maxRecDepth 100000 in
theorem open_ints (B : Bulk bk bka) {fuel : Nat} {u : Value} {x : DataW H × List MemPlace} (h : DataW.trod enc Tryd.prog w base spare held fuel 49 [u] = some x) :
    ∃ a l cap, u = .slice a l.length cap ∧ AllIn 1 IntIn w a l ∧ l.length ≤ cap ∧ cap ≤ maxLen ∧ (∀ z ∈ l, inI z) ∧ 8 + (l.flatMap num8).length ≤ 9 * bk x.1 ∧ l.length ≤ bk x.1 ∧ ∀ z ∈ l, (fun _ : Int => 0) z ≤ bk x.1 :=
  open_rows B (In := IntIn) (k := 1) (by decide) Tryd.underlying49 cI h fun n cs y hy => by
    obtain ⟨z, rfl, e, hw⟩ := DataW.trod_int Tryd.underlying3 hy
    subst e
    exact ⟨z, fun b o _ hc => hc 0 (by decide), ok_wf hw, by simp only [B.int]; rw [obj.num8_len]; decide, Nat.zero_le _⟩
set_option maxRecDepth 100000 in
theorem open_vars (B : Bulk bk bka) {fuel : Nat} {u : Value} {x : DataW H × List MemPlace} (h : DataW.trod enc Tryd.prog w base spare held fuel 31 [u] = some x) :
    ∃ a l cap, u = .slice a l.length cap ∧ AllIn 4 VarIn w a l ∧ l.length ≤ cap ∧ cap ≤ maxLen ∧ (∀ z ∈ l, inI z.label ∧ inI z.size) ∧ 8 + (l.flatMap varL).length ≤ 9 * bk x.1 ∧ l.length ≤ bk x.1 ∧ ∀ z ∈ l, (fun _ : FVar => 0) z ≤ bk x.1 :=
  open_rows B (In := VarIn) (k := 4) (by decide) Tryd.underlying31 cV h fun n cs y hy => by
    obtain ⟨xs, n', _, hxx, hl, hlen, hf⟩ := DataW.trod_struct Tryd.underlying41 hy
    rw [cV] at hl
    replace hlen : xs.length = 4 := hlen
    match cs, hl, xs, hlen with
    | [v0, v1, v2, v3], _, [y0, y1, y2, y3], _ =>
      have g0 := hf 0 _ rfl
      have g1 := hf 1 _ rfl
      have g2 := hf 2 _ rfl
      have g3 := hf 3 _ rfl
      simp only [List.getElem?_cons_zero, List.getElem?_cons_succ] at g0 g1 g2 g3
      obtain ⟨s, e0, f0, hs⟩ := DataW.trod_string Tryd.underlying9 g0
      obtain ⟨b1, e1, f1⟩ := DataW.trod_bool Tryd.underlying4 g1
      obtain ⟨i2, e2, f2, h2⟩ := DataW.trod_int Tryd.underlying3 g2
      obtain ⟨i3, e3, f3, h3⟩ := DataW.trod_int Tryd.underlying3 g3
      cases e0; cases e1; cases e2; cases e3; subst f0 f1 f2 f3
      refine ⟨⟨s, b1, i2, i3⟩, fun b o _ hc => ⟨hc 0 (by decide), hc 1 (by decide), hc 2 (by decide), hc 3 (by decide), hs⟩, ⟨ok_wf h2, ok_wf h3⟩, ?_, Nat.zero_le _⟩
      rw [hxx]
      simp only [List.map_cons, List.map_nil, B.agg, B.cons, B.str, B.int, B.bool, B.none, size_data]
      unfold varL
      rw [List.length_append, List.length_append, obj.text_len, obj.truth_len, obj.numsL_len]
      simp only [List.length_cons, List.length_nil]
      omega
set_option maxRecDepth 100000 in
theorem open_procs (B : Bulk bk bka) {fuel : Nat} {u : Value} {x : DataW H × List MemPlace} (h : DataW.trod enc Tryd.prog w base spare held fuel 32 [u] = some x) :
    ∃ a l cap, u = .slice a l.length cap ∧ AllIn 6 ProcIn w a l ∧ l.length ≤ cap ∧ cap ≤ maxLen ∧ (∀ z ∈ l, (∀ q ∈ z.params, inI q) ∧ inI z.writes ∧ inI z.given) ∧ 8 + (l.flatMap procL).length ≤ 9 * bk x.1 ∧ l.length ≤ bk x.1 ∧ ∀ z ∈ l, (fun _ : FProc => 0) z ≤ bk x.1 :=
  open_rows B (In := ProcIn) (k := 6) (by decide) Tryd.underlying32 cP h fun n cs y hy => by
    obtain ⟨xs, n', _, hxx, hl, hlen, hf⟩ := DataW.trod_struct Tryd.underlying62 hy
    rw [cP] at hl
    replace hlen : xs.length = 6 := hlen
    match cs, hl, xs, hlen with
    | [v0, v1, v2, v3, v4, v5], _, [y0, y1, y2, y3, y4, y5], _ =>
      have g0 := hf 0 _ rfl
      have g1 := hf 1 _ rfl
      have g2 := hf 2 _ rfl
      have g3 := hf 3 _ rfl
      have g4 := hf 4 _ rfl
      have g5 := hf 5 _ rfl
      simp only [List.getElem?_cons_zero, List.getElem?_cons_succ] at g0 g1 g2 g3 g4 g5
      obtain ⟨s, e0, f0, hs⟩ := DataW.trod_string Tryd.underlying9 g0
      obtain ⟨b1, e1, f1⟩ := DataW.trod_bool Tryd.underlying4 g1
      obtain ⟨a2, l2, c2, e2, h2, h3, h4, hn2, hL2, hl2, -⟩ := open_ints B g2
      obtain ⟨i3, e3, f3, k3⟩ := DataW.trod_int Tryd.underlying3 g3
      obtain ⟨b4, e4, f4⟩ := DataW.trod_bool Tryd.underlying4 g4
      obtain ⟨i5, e5, f5, k5⟩ := DataW.trod_int Tryd.underlying3 g5
      cases e0; cases e1; subst e2; cases e3; cases e4; cases e5; subst f0 f1 f3 f4 f5
      refine ⟨⟨s, b1, l2, i3, b4, i5⟩, fun b o _ hc => ⟨hc 0 (by decide), hc 1 (by decide), ⟨a2, c2, hc 2 (by decide), h2, h3, h4⟩, hc 3 (by decide), hc 4 (by decide), hc 5 (by decide), hs⟩, ⟨hn2, ok_wf k3, ok_wf k5⟩, ?_, Nat.zero_le _⟩
      rw [hxx]
      simp only [List.map_cons, List.map_nil, B.agg, B.cons, B.str, B.int, B.bool, B.none, size_data]
      have e : (numsL l2).length = (l2.flatMap num8).length := rfl
      unfold procL
      repeat rw [List.length_append]
      rw [obj.text_len, obj.truth_len, obj.truth_len, obj.num8_len, obj.num8_len, obj.num8_len, e]
      simp only
      omega
set_option maxRecDepth 100000 in
theorem open_face (B : Bulk bk bka) {cs : List Value} {y : DataW H × List MemPlace} {n : Nat} (hy : DataW.trod enc Tryd.prog w base spare held n 34 cs = some y) :
    ∃ (x : FFace) (a : Option Addr) (m : Nat) (c : Option Addr) (d : Nat), cs = [.string x.modn, .slice a x.vars.length m, .slice c x.procs.length d] ∧ FaceAt w x (.agg #[.string x.modn, .slice a x.vars.length m, .slice c x.procs.length d]) ∧ FaceNums x ∧ (faceL x).length ≤ 9 * bk y.1 ∧ x.vars.length + x.procs.length ≤ bk y.1 := by
  obtain ⟨xs, n', _, hxx, hl, hlen, hf⟩ := DataW.trod_struct Tryd.underlying34 hy
  rw [cF] at hl
  replace hlen : xs.length = 3 := hlen
  match cs, hl, xs, hlen with
  | [v0, v1, v2], _, [y0, y1, y2], _ =>
    have g0 := hf 0 _ rfl
    have g1 := hf 1 _ rfl
    have g2 := hf 2 _ rfl
    simp only [List.getElem?_cons_zero, List.getElem?_cons_succ] at g0 g1 g2
    obtain ⟨s, e0, f0, hs⟩ := DataW.trod_string Tryd.underlying9 g0
    obtain ⟨a1, l1, c1, e1, h1, h1c, h1m, N1, L1, K1, -⟩ := open_vars B g1
    obtain ⟨a2, l2, c2, e2, h2, h2c, h2m, N2, L2, K2, -⟩ := open_procs B g2
    cases e0; subst e1 e2 f0
    refine ⟨⟨s, l1, l2⟩, a1, c1, a2, c2, rfl, ⟨a1, c1, a2, c2, rfl, h1, h2, hs, h1c, h1m, h2c, h2m⟩, ⟨N1, N2⟩, ?_, ?_⟩
    · rw [hxx]
      simp only [List.map_cons, List.map_nil, B.agg, B.cons, B.str, B.none, size_data]
      unfold faceL
      repeat rw [List.length_append]
      rw [obj.text_len, obj.num8_len, obj.num8_len]
      simp only
      omega
    · rw [hxx]
      simp only [List.map_cons, List.map_nil, B.agg, B.cons, B.str, B.none]
      omega
set_option maxRecDepth 100000 in
theorem open_faces (B : Bulk bk bka) {fuel : Nat} {u : Value} {x : DataW H × List MemPlace} (h : DataW.trod enc Tryd.prog w base spare held fuel 35 [u] = some x) :
    ∃ a l cap, u = .slice a l.length cap ∧ AllIn 3 FaceIn w a l ∧ l.length ≤ cap ∧ cap ≤ maxLen ∧ (∀ z ∈ l, FaceNums z) ∧ 8 + (l.flatMap faceL).length ≤ 9 * bk x.1 ∧ l.length ≤ bk x.1 ∧ ∀ z ∈ l, (fun f : FFace => f.vars.length + f.procs.length) z ≤ bk x.1 :=
  open_rows B (In := FaceIn) (k := 3) (by decide) Tryd.underlying35 cF h fun n cs y hy => by
    obtain ⟨z, a, m, c, d, rfl, h1, h2, h3, h4⟩ := open_face B hy
    exact ⟨z, fun b o _ hc => ⟨a, m, c, d, hc 0 (by decide), hc 1 (by decide), hc 2 (by decide), h1⟩, h2, h3, h4⟩
set_option maxRecDepth 100000 in
theorem open_code (B : Bulk bk bka) {fuel : Nat} {u : Value} {x : DataW H × List MemPlace} (h : DataW.trod enc Tryd.prog w base spare held fuel 23 [u] = some x) :
    ∃ a l cap, u = .slice a l.length cap ∧ AllIn 5 InsIn5 w a l ∧ l.length ≤ cap ∧ cap ≤ maxLen ∧ (∀ z ∈ l, (∀ y ∈ [z.op, z.a, z.b, z.c], inI y) ∧ inI z.n) ∧ 8 + (l.flatMap insL).length ≤ 9 * bk x.1 ∧ l.length ≤ bk x.1 ∧ ∀ z ∈ l, (fun _ : Ins => 0) z ≤ bk x.1 :=
  open_rows B (In := InsIn5) (k := 5) (by decide) Tryd.underlying23 cC h fun n cs y hy => by
    obtain ⟨xs, n', _, hxx, hl, hlen, hf⟩ := DataW.trod_struct Tryd.underlying64 hy
    rw [cC] at hl
    replace hlen : xs.length = 5 := hlen
    match cs, hl, xs, hlen with
    | [v0, v1, v2, v3, v4], _, [y0, y1, y2, y3, y4], _ =>
      have g0 := hf 0 _ rfl
      have g1 := hf 1 _ rfl
      have g2 := hf 2 _ rfl
      have g3 := hf 3 _ rfl
      have g4 := hf 4 _ rfl
      simp only [List.getElem?_cons_zero, List.getElem?_cons_succ] at g0 g1 g2 g3 g4
      obtain ⟨i0, e0, f0, k0⟩ := DataW.trod_int Tryd.underlying3 g0
      obtain ⟨i1, e1, f1, k1⟩ := DataW.trod_int Tryd.underlying3 g1
      obtain ⟨i2, e2, f2, k2⟩ := DataW.trod_int Tryd.underlying3 g2
      obtain ⟨i3, e3, f3, k3⟩ := DataW.trod_int Tryd.underlying3 g3
      obtain ⟨i4, e4, f4, k4⟩ := DataW.trod_int Tryd.underlying2 g4
      cases e0; cases e1; cases e2; cases e3; cases e4; subst f0 f1 f2 f3 f4
      refine ⟨⟨i0, i1, i2, i3, i4⟩, fun b o _ hc => ⟨hc 0 (by decide), hc 1 (by decide), hc 2 (by decide), hc 3 (by decide), hc 4 (by decide)⟩, ⟨fun z hz => ?_, ok_wf k4⟩, ?_, Nat.zero_le _⟩
      · simp only [List.mem_cons, List.mem_nil_iff, or_false] at hz
        rcases hz with rfl | rfl | rfl | rfl
        · exact ok_wf k0
        · exact ok_wf k1
        · exact ok_wf k2
        · exact ok_wf k3
      · rw [hxx]
        simp only [List.map_cons, List.map_nil, B.agg, B.cons, B.int, B.none]
        unfold insL
        rw [List.length_append, obj.num8_len, obj.numsL_len]
        simp only [List.length_cons, List.length_nil]
        omega
set_option maxRecDepth 100000 in
theorem open_relocs (B : Bulk bk bka) {fuel : Nat} {u : Value} {x : DataW H × List MemPlace} (h : DataW.trod enc Tryd.prog w base spare held fuel 36 [u] = some x) :
    ∃ a l cap, u = .slice a l.length cap ∧ AllIn 4 RelIn w a l ∧ l.length ≤ cap ∧ cap ≤ maxLen ∧ (∀ z ∈ l, ∀ y ∈ [z.at_, z.kind], inI y) ∧ 8 + (l.flatMap relL).length ≤ 9 * bk x.1 ∧ l.length ≤ bk x.1 ∧ ∀ z ∈ l, (fun r : FRel => r.modn.size + r.name.size) z ≤ bk x.1 :=
  open_rows B (In := RelIn) (k := 4) (by decide) Tryd.underlying36 cR h fun n cs y hy => by
    obtain ⟨xs, n', _, hxx, hl, hlen, hf⟩ := DataW.trod_struct Tryd.underlying56 hy
    rw [cR] at hl
    replace hlen : xs.length = 4 := hlen
    match cs, hl, xs, hlen with
    | [v0, v1, v2, v3], _, [y0, y1, y2, y3], _ =>
      have g0 := hf 0 _ rfl
      have g1 := hf 1 _ rfl
      have g2 := hf 2 _ rfl
      have g3 := hf 3 _ rfl
      simp only [List.getElem?_cons_zero, List.getElem?_cons_succ] at g0 g1 g2 g3
      obtain ⟨i0, e0, f0, k0⟩ := DataW.trod_int Tryd.underlying3 g0
      obtain ⟨i1, e1, f1, k1⟩ := DataW.trod_int Tryd.underlying3 g1
      obtain ⟨s2, e2, f2, _⟩ := DataW.trod_string Tryd.underlying9 g2
      obtain ⟨s3, e3, f3, _⟩ := DataW.trod_string Tryd.underlying9 g3
      cases e0; cases e1; cases e2; cases e3; subst f0 f1 f2 f3
      refine ⟨⟨i0, i1, s2, s3⟩, fun b o _ hc => ⟨hc 0 (by decide), hc 1 (by decide), hc 2 (by decide), hc 3 (by decide)⟩, fun z hz => ?_, ?_, ?_⟩
      · simp only [List.mem_cons, List.mem_nil_iff, or_false] at hz
        rcases hz with rfl | rfl
        · exact ok_wf k0
        · exact ok_wf k1
      · rw [hxx]
        simp only [List.map_cons, List.map_nil, B.agg, B.cons, B.int, B.str, B.none, size_data]
        unfold relL
        rw [List.length_append, List.length_append, obj.text_len, obj.text_len, obj.numsL_len]
        simp only [List.length_cons, List.length_nil]
        omega
      · rw [hxx]
        simp only [List.map_cons, List.map_nil, B.agg, B.cons, B.int, B.str, B.none, size_data]
        omega
set_option maxRecDepth 100000 in
theorem open_places (B : Bulk bk bka) {fuel : Nat} {u : Value} {x : DataW H × List MemPlace} (h : DataW.trod enc Tryd.prog w base spare held fuel 37 [u] = some x) :
    ∃ a l cap, u = .slice a l.length cap ∧ AllIn 2 PlcIn w a l ∧ l.length ≤ cap ∧ cap ≤ maxLen ∧ (∀ z ∈ l, (fun _ : FPlc => True) z) ∧ 8 + (l.flatMap plcL).length ≤ 9 * bk x.1 ∧ l.length ≤ bk x.1 ∧ ∀ z ∈ l, (fun _ : FPlc => 0) z ≤ bk x.1 :=
  open_rows B (In := PlcIn) (k := 2) (by decide) Tryd.underlying37 cL h fun n cs y hy => by
    obtain ⟨xs, n', _, hxx, hl, hlen, hf⟩ := DataW.trod_struct Tryd.underlying73 hy
    rw [cL] at hl
    replace hlen : xs.length = 2 := hlen
    match cs, hl, xs, hlen with
    | [v0, v1], _, [y0, y1], _ =>
      have g0 := hf 0 _ rfl
      have g1 := hf 1 _ rfl
      simp only [List.getElem?_cons_zero, List.getElem?_cons_succ] at g0 g1
      obtain ⟨s0, e0, f0, k0⟩ := DataW.trod_string Tryd.underlying9 g0
      obtain ⟨i1, e1, f1, k1⟩ := DataW.trod_int Tryd.underlying3 g1
      cases e0; cases e1; subst f0 f1
      refine ⟨⟨s0, i1⟩, fun b o _ hc => ⟨hc 0 (by decide), hc 1 (by decide), k0, ok_wf k1⟩, trivial, ?_, Nat.zero_le _⟩
      rw [hxx]
      simp only [List.map_cons, List.map_nil, B.agg, B.cons, B.int, B.str, B.none, size_data]
      unfold plcL
      rw [List.length_append, obj.text_len, obj.num8_len]
      simp only
      omega
set_option maxRecDepth 100000 in
set_option maxHeartbeats 4000000 in
/-- An object that comes in. -/
theorem open_obj (B : Bulk bk bka) {v : Value} {d : DataW H} {p : List MemPlace} {r : Reach} {b0 : Nat} (hv : Value.okWide Tryd.prog w r b0 39 v) (h : DataW.Trod enc Tryd.prog w base spare held 39 v d p) (hd : bk d ≤ 1048576) :
    ∃ x : FObj, ObjAt w x v ∧ ObjNums x ∧ ObjSmall x ∧ (objL x).length ≤ 9437184 := by
  obtain ⟨cs, rfl, hsz⟩ := okWide_struct Tryd.underlying39 hv
  rw [cO] at hsz
  obtain ⟨fuel, hf⟩ := h
  obtain ⟨xs, n, _, hx, hl, hlen, hf⟩ := DataW.trod_struct Tryd.underlying39 hf
  obtain ⟨l⟩ := cs
  replace hsz : l.length = 13 := hsz
  replace hlen : xs.length = 11 := hlen
  match l, hsz, xs, hlen with
  | [v0, v1, v2, v3, v4, v5, v6, v7, v8, v9, v10, v11, v12], _, [y0, y1, y2, y3, y4, y5, y6, y7, y8, y9, y10], _ =>
    have g0 := hf 0 _ rfl
    have g1 := hf 1 _ rfl
    have g2 := hf 2 _ rfl
    have g3 := hf 3 _ rfl
    have g4 := hf 4 _ rfl
    have g5 := hf 5 _ rfl
    have g6 := hf 6 _ rfl
    have g7 := hf 7 _ rfl
    have g8 := hf 8 _ rfl
    have g9 := hf 9 _ rfl
    have g10 := hf 10 _ rfl
    simp only [Value.cells, List.getElem?_cons_zero, List.getElem?_cons_succ] at g0 g1 g2 g3 g4 g5 g6 g7 g8 g9 g10
    obtain ⟨xf, fa, fm, fc, fd, e0, F1, F2, F3, F4⟩ := open_face B g0
    obtain ⟨a1, l1, c1, e1, I1, -, -, N1, L1, K1, G1⟩ := open_faces B g1
    obtain ⟨a2, l2, c2, e2, I2, -, -, N2, L2, K2, -⟩ := open_code B g2
    obtain ⟨a3, l3, c3, e3, I3, -, -, N3, L3, K3, G3⟩ := open_relocs B g3
    obtain ⟨a4, l4, c4, e4, I4, -, -, -, L4, K4, -⟩ := open_places B g4
    obtain ⟨a5, l5, c5, e5, I5, -, -, -, L5, K5, -⟩ := open_places B g5
    obtain ⟨a6, l6, c6, e6, I6, -, -, -, L6, K6, -⟩ := open_places B g6
    obtain ⟨i7, e7, f7, k7⟩ := DataW.trod_int Tryd.underlying3 g7
    obtain ⟨i8, e8, f8, k8⟩ := DataW.trod_int Tryd.underlying3 g8
    obtain ⟨i9, e9, f9, k9⟩ := DataW.trod_int Tryd.underlying3 g9
    obtain ⟨i10, e10, f10, k10⟩ := DataW.trod_int Tryd.underlying3 g10
    clear g0 g1 g2 g3 g4 g5 g6 g7 g8 g9 g10 hf
    cases e0; cases e7; cases e8; cases e9; cases e10
    subst e1 e2 e3 e4 e5 e6
    have hdd : d = .agg [y0.1, y1.1, y2.1, y3.1, y4.1, y5.1, y6.1, y7.1, y8.1, y9.1, y10.1] := by have := congrArg Prod.fst hx; simpa using this
    have hb : bk y0.1 + (bk y1.1 + (bk y2.1 + (bk y3.1 + (bk y4.1 + (bk y5.1 + (bk y6.1 + 5)))))) ≤ bk d := by
      rw [hdd, f7, f8, f9, f10]
      simp only [B.agg, B.cons, B.int, B.none]
      omega
    refine ⟨⟨xf, l1, l2, l3, l4, l5, l6, i7, i8, i9, i10⟩, ⟨fa, fm, fc, fd, a1, c1, a2, c2, a3, c3, a4, c4, a5, c5, a6, c6, rfl, F1, I1, I2, I3, I4, I5, I6⟩, ⟨F2, N1, N2, N3, fun z hz => ?_⟩, ⟨?_, ?_, ?_, ?_, ?_, ?_, fun f hf => ?_, fun r hr => ?_⟩, ?_⟩
    · simp only [List.mem_cons, List.mem_nil_iff, or_false] at hz
      rcases hz with rfl | rfl | rfl | rfl
      · exact ok_wf k7
      · exact ok_wf k8
      · exact ok_wf k9
      · exact ok_wf k10
    · show l1.length ≤ _; omega
    · show l2.length ≤ _; omega
    · show l3.length ≤ _; omega
    · show l4.length ≤ _; omega
    · show l5.length ≤ _; omega
    · show l6.length ≤ _; omega
    · rcases List.mem_cons.1 hf with e | hf
      · rw [e]; show xf.vars.length + xf.procs.length ≤ _; omega
      · have := G1 f hf; simp only at this; omega
    · have := G3 r hr; simp only at this; omega
    · unfold objL placesL
      simp only
      repeat rw [List.length_append]
      rw [obj.num8_len, obj.num8_len, obj.num8_len, obj.num8_len, obj.num8_len, obj.num8_len, obj.numsL_len]
      simp only [List.length_cons, List.length_nil]
      omega
end Go.Proofs.YtpcihajmcejliabDoor.objOpen
