/- LinkStale: the variables of a face as a row of one's own, the first label turned; the row of objects with that face in it. -/
import Derived.Test.YtpcihajmcejliabDoorStaleRow
namespace Go.Proofs.YtpcihajmcejliabDoor
open Go.RowKit Go.WideMaps Go.Maps
namespace staled
def varCells (v : FVar) : List Value := [.string v.name, .bool v.pub, .int .i64 v.label, .int .i64 v.size]
def rowOf (vs : List FVar) : List Value := (vs.map varCells).flatten
theorem flat_at (m : Nat) : ∀ (us : List (List Value)) (_ : ∀ u ∈ us, u.length = m) (j : Nat) (h : j < us.length) (i : Nat) (_ : i < m), us.flatten[j * m + i]? = us[j][i]? := by
  intro us
  induction us with
  | nil => intro _ j h; cases h
  | cons u r ih =>
    intro hl j h i hi
    have hu := hl u (List.mem_cons_self ..)
    rw [List.flatten_cons]
    cases j with
    | zero => rw [List.getElem?_append_left (by omega)]; simp
    | succ j =>
      rw [List.getElem?_append_right (by rw [hu, Nat.succ_mul]; omega), show (j + 1) * m + i - u.length = j * m + i by rw [hu, Nat.succ_mul]; omega, ih (fun u hu => hl u (List.mem_cons_of_mem _ hu)) j (by simpa using h) i hi]
      simp
theorem row_len (vs : List FVar) : (rowOf vs).length = vs.length * 4 := by
  unfold rowOf
  induction vs with
  | nil => rfl
  | cons v r ih => rw [List.map_cons, List.flatten_cons, List.length_append, ih, List.length_cons, Nat.succ_mul]; simp [varCells]; omega
theorem row_at (vs : List FVar) (j : Nat) (h : j < vs.length) (i : Nat) (hi : i < 4) : (rowOf vs)[j * 4 + i]? = (varCells vs[j])[i]? := by
  unfold rowOf
  rw [flat_at 4 _ (by intro u hu; obtain ⟨v, _, rfl⟩ := List.mem_map.1 hu; rfl) j (by simpa using h) i hi]
  simp
theorem row_one (vs : List FVar) : ∀ u ∈ rowOf vs, u.oneCell' = true := by
  intro u hu
  unfold rowOf at hu
  obtain ⟨c, hc, hu⟩ := List.mem_flatten.1 hu
  obtain ⟨v, _, rfl⟩ := List.mem_map.1 hc
  simp only [varCells, List.mem_cons, List.not_mem_nil, or_false] at hu
  rcases hu with rfl | rfl | rfl | rfl <;> rfl
/-- the cells of a row that lies somewhere -/
theorem row_cells {w : World} {a : Option Addr} {vs : List FVar} (h : AllIn 4 VarIn w a vs) (h0 : 0 < vs.length) : ∃ b o, a = some ⟨b, o, none⟩ ∧ b < w.heap.size ∧ ∀ j u, (rowOf vs)[j]? = some u → w.cell? ((⟨b, o, none⟩ : Addr).add j) = some u := by
  obtain ⟨b, o, rfl, hb, -⟩ := h 0 h0
  refine ⟨b, o, rfl, hb, fun p u hp => ?_⟩
  have hlt : p < vs.length * 4 := by
    have := (List.getElem?_eq_some_iff.1 hp).1
    rw [row_len] at this
    exact this
  obtain ⟨j, i, rfl, hi⟩ : ∃ j i, p = j * 4 + i ∧ i < 4 := ⟨p / 4, p % 4, by omega, by omega⟩
  have hj : j < vs.length := by omega
  rw [row_at vs j hj i hi] at hp
  obtain ⟨b', o', e, -, hin⟩ := h j hj
  obtain ⟨rfl, rfl⟩ : b = b' ∧ o = o' := by simpa using e
  obtain ⟨k0, k1, k2, k3, -⟩ := hin
  have ea : ((⟨b, o, none⟩ : Addr).add (j * 4 + i)) = ⟨b, o + j * 4 + i, none⟩ := by
    unfold Addr.add
    split
    · rename_i h; simp only [Addr.mk.injEq, true_and, and_true]; omega
    · simp only [Addr.mk.injEq, true_and, and_true]; omega
  rw [ea]
  match i, hi with
  | 0, _ => rw [Nat.add_zero]; exact k0.trans hp
  | 1, _ => exact k1.trans hp
  | 2, _ => exact k2.trans hp
  | 3, _ => exact k3.trans hp
/-- the row with the first label turned -/
theorem row_turn {w : World} {B g cap n : Nat} {vs : List FVar} {L : Int} {r : List FVar} {v : FVar} {T : TypeId} (hv : vs = v :: r) (ho : w.ownsRow B T 4 (.slice (some ⟨g, 0, none⟩) n cap) n (rowOf vs)) (hL : 1 - v.label = L) (hs : ∀ v ∈ vs, v.name.size ≤ maxLen) :
    AllIn 4 VarIn (w.setCell ⟨g, 2, none⟩ (.int .i64 L)) (some ⟨g, 0, none⟩) (turnVs vs) := by
  subst hv
  intro j hj
  have hlt := (World.ownsRow.lt ho g rfl).2
  have hjl : j < (v :: r).length := by rw [stale.len_turn] at hj; exact hj
  have hn := ho.1
  rw [row_len] at hn
  have hc : ∀ i, i < 4 → w.cell? ⟨g, j * 4 + i, none⟩ = (varCells ((v :: r)[j]))[i]? := fun i hi => by
    rw [ho.cellAt _ (by omega), row_at _ _ hjl _ hi]
  have hne : ∀ i, i ≠ 2 → (w.setCell ⟨g, 2, none⟩ (.int .i64 L)).cell? ⟨g, i, none⟩ = w.cell? ⟨g, i, none⟩ := fun i hi => World.cell?_setCell_other _ _ _ _ (by intro e; cases e; exact hi rfl)
  refine ⟨g, 0, rfl, by rw [World.size_setCell]; exact hlt, ?_⟩
  rw [Nat.zero_add]
  cases j with
  | zero =>
    have h0 := hc 0 (by decide)
    have h1 := hc 1 (by decide)
    have h2 := hc 2 (by decide)
    have h3 := hc 3 (by decide)
    refine ⟨?_, ?_, ?_, ?_, hs v (List.mem_cons_self ..)⟩
    · exact (hne 0 (by decide)).trans h0
    · exact (hne 1 (by decide)).trans h1
    · subst hL; exact World.cell?_setCell_same _ _ _ h2
    · exact (hne 3 (by decide)).trans h3
  | succ j =>
    have h0 := hc 0 (by decide)
    have h1 := hc 1 (by decide)
    have h2 := hc 2 (by decide)
    have h3 := hc 3 (by decide)
    show VarIn _ g ((j + 1) * 4) ((v :: r)[j + 1])
    refine ⟨?_, ?_, ?_, ?_, hs _ (List.getElem_mem ..)⟩
    · exact (hne _ (by omega)).trans h0
    · exact (hne _ (by omega)).trans h1
    · exact (hne _ (by omega)).trans h2
    · exact (hne _ (by omega)).trans h3
theorem wrap_bit {n : Int} (h0 : 0 ≤ n) (h1 : n ≤ 1) : IntKind.i64.wrap n = n := by
  obtain rfl | rfl : n = 0 ∨ n = 1 := by omega
  · rfl
  · rfl
theorem own_blk {w : World} {B : Nat} {T : TypeId} {s g n m cap : Nat} {xs : List Value} (h : w.ownsRow B T s (.slice (some ⟨g, 0, none⟩) n cap) m xs) : ∃ cur, Blk w g cur T := by
  obtain ⟨-, h⟩ := h
  rcases h with ⟨h, _⟩ | ⟨g', cap', cur, e, -, hh, -⟩
  · cases h
  · obtain ⟨rfl, -, -⟩ : g = g' ∧ n = m ∧ cap = cap' := by simpa using e
    exact ⟨cur, hh⟩
theorem own_cap {w : World} {B : Nat} {T : TypeId} {s g n m cap : Nat} {xs : List Value} (h : w.ownsRow B T s (.slice (some ⟨g, 0, none⟩) n cap) m xs) : m ≤ cap ∧ cap ≤ maxLen := by
  obtain ⟨-, h⟩ := h
  rcases h with ⟨h, _⟩ | ⟨g', cap', cur, e, -, -, h1, h2, -⟩
  · cases h
  · obtain ⟨rfl, -, rfl⟩ : g = g' ∧ n = m ∧ cap = cap' := by simpa using e
    exact ⟨h1, h2⟩
/-- three cells stored one behind the other -/
theorem three_cells {w : World} {g o : Nat} {u0 u1 u2 s0 s1 s2 : Value} (h0 : w.cell? ⟨g, o, none⟩ = some s0) (h1 : w.cell? ⟨g, o + 1, none⟩ = some s1) (h2 : w.cell? ⟨g, o + 2, none⟩ = some s2) :
    let w' := ((w.setCell ⟨g, o, none⟩ u0).setCell ⟨g, o + 1, none⟩ u1).setCell ⟨g, o + 2, none⟩ u2
    w'.cell? ⟨g, o, none⟩ = some u0 ∧ w'.cell? ⟨g, o + 1, none⟩ = some u1 ∧ w'.cell? ⟨g, o + 2, none⟩ = some u2 ∧ (∀ i, (i < o ∨ o + 3 ≤ i) → w'.cell? ⟨g, i, none⟩ = w.cell? ⟨g, i, none⟩) ∧
      (∀ p : Addr, p.block ≠ g → w'.cell? p = w.cell? p) ∧ w'.heap.size = w.heap.size ∧ ∀ (a : World) (S : Nat → Prop), Chg S a w → a.heap.size ≤ g → Chg S a w' := by
  have ne : ∀ {a b : Nat}, a ≠ b → (⟨g, a, none⟩ : Addr) ≠ ⟨g, b, none⟩ := fun h e => h (by injection e)
  refine ⟨?_, ?_, ?_, fun i hi => ?_, fun p hp => ?_, ?_, fun a S hc hg => ((hc.setNew hg _).setNew hg _).setNew hg _⟩
  · rw [World.cell?_setCell_other _ _ _ _ (ne (by omega)), World.cell?_setCell_other _ _ _ _ (ne (by omega))]
    exact World.cell?_setCell_same _ _ _ h0
  · rw [World.cell?_setCell_other _ _ _ _ (ne (by omega))]
    exact World.cell?_setCell_same _ _ _ ((World.cell?_setCell_other _ _ _ _ (ne (by omega))).trans h1)
  · exact World.cell?_setCell_same _ _ _ (((World.cell?_setCell_other _ _ _ _ (ne (by omega))).trans (World.cell?_setCell_other _ _ _ _ (ne (by omega)))).trans h2)
  · rw [World.cell?_setCell_other _ _ _ _ (ne (by omega)), World.cell?_setCell_other _ _ _ _ (ne (by omega)), World.cell?_setCell_other _ _ _ _ (ne (by omega))]
  · rw [World.cell?_setCell_other _ _ _ _ (by intro e; exact hp (by rw [← e])), World.cell?_setCell_other _ _ _ _ (by intro e; exact hp (by rw [← e])), World.cell?_setCell_other _ _ _ _ (by intro e; exact hp (by rw [← e]))]
  · simp
theorem row_else {w w' : World} {g gm : Nat} {vs : List FVar} (h : AllIn 4 VarIn w (some ⟨g, 0, none⟩) vs) (hne : g ≠ gm) (hc : ∀ p : Addr, p.block ≠ gm → w'.cell? p = w.cell? p) (hs : w'.heap.size = w.heap.size) : AllIn 4 VarIn w' (some ⟨g, 0, none⟩) vs := by
  intro j hj
  obtain ⟨b, o, e, hb, hin⟩ := h j hj
  obtain ⟨rfl, rfl⟩ : g = b ∧ 0 = o := by simpa using e
  refine ⟨g, 0, rfl, by rw [hs]; exact hb, ?_⟩
  obtain ⟨h0, h1, h2, h3, h4⟩ := hin
  exact ⟨(hc _ hne).trans h0, (hc _ hne).trans h1, (hc _ hne).trans h2, (hc _ hne).trans h3, h4⟩
theorem small_turn {l : List FObj} {k : Nat} (h : ∀ x ∈ l, ObjSmall x) : ∀ x ∈ turnL l k, ObjSmall x := by
  intro y hy
  obtain ⟨i, hi, rfl⟩ := List.getElem_of_mem hy
  have hil : i < l.length := by simpa [turnL] using hi
  have e : (turnL l k)[i] = if k = i then turnO l[i] else l[i] := by
    have e : (turnL l k)[i]? = (if k = i then turnO <$> l[i]? else l[i]?) := by unfold turnL; rw [List.getElem?_modify]; split <;> simp
    rw [List.getElem?_eq_getElem hi, List.getElem?_eq_getElem hil] at e
    by_cases hk : k = i
    · rw [if_pos hk] at e ⊢; exact Option.some.inj e
    · rw [if_neg hk] at e ⊢; exact Option.some.inj e
  rw [e]
  have hx := h _ (List.getElem_mem hil)
  split
  · refine ⟨hx.imports, hx.code, hx.relocs, hx.procs, hx.lows, hx.highs, fun f hf => ?_, hx.strs⟩
    rcases List.mem_cons.1 hf with rfl | hf
    · have := hx.faces _ (List.mem_cons_self ..)
      show (turnVs l[i].face.vars).length + _ ≤ _
      rw [stale.len_turn]; exact this
    · exact hx.faces _ (List.mem_cons_of_mem _ hf)
  · exact hx
theorem forms_all {l : List FObj} : ∀ {L : List ByteArray}, formsF L l = none → ∀ x ∈ l, mayObjB x = true := by
  induction l with
  | nil => intro L _ x hx; cases hx
  | cons y r ih =>
    intro L h x hx
    unfold formsF at h
    split at h
    · cases h
    · rename_i h1
      split at h
      · cases h
      · rcases List.mem_cons.1 hx with rfl | hx
        · simpa using h1
        · exact ih h x hx
theorem labels {x : FObj} (h : mayObjB x = true) : ∀ v ∈ x.face.vars, 0 ≤ v.label ∧ v.label ≤ 1 := by
  intro v hv
  simp only [mayObjB, facesB, mayFaceB, Bool.and_eq_true, List.all_eq_true] at h
  have h1 := h.2.1.1.1.1.2.1.1.1.1.1.2 v hv
  simp only [varT, Bool.and_eq_true] at h1
  have h2 := h1.1.1.2
  unfold labB at h2
  simp only [Bool.or_eq_true, beq_iff_eq] at h2
  omega
theorem obj_turn {w w' : World} {x : FObj} {fa am fc cm ia ic ca cc ra rc pa pc la lc ha hc g cap} (hE : Ext w w')
    (h : ObjAt w x (.agg #[.string x.face.modn, .slice fa x.face.vars.length am, .slice fc x.face.procs.length cm, .slice ia x.imports.length ic, .slice ca x.code.length cc, .slice ra x.relocs.length rc, .slice pa x.procs.length pc, .slice la x.lows.length lc, .slice ha x.highs.length hc, .int .i64 x.low, .int .i64 x.high, .int .i64 x.lowF, .int .i64 x.highF]))
    (hv : AllIn 4 VarIn w' (some ⟨g, 0, none⟩) (turnVs x.face.vars)) (h1 : x.face.vars.length ≤ cap) (h2 : cap ≤ maxLen) :
    ObjAt w' (turnO x) (.agg #[.string x.face.modn, .slice (some ⟨g, 0, none⟩) x.face.vars.length cap, .slice fc x.face.procs.length cm, .slice ia x.imports.length ic, .slice ca x.code.length cc, .slice ra x.relocs.length rc, .slice pa x.procs.length pc, .slice la x.lows.length lc, .slice ha x.highs.length hc, .int .i64 x.low, .int .i64 x.high, .int .i64 x.lowF, .int .i64 x.highF]) := by
  obtain ⟨fa', am', fc', cm', ia', ic', ca', cc', ra', rc', pa', pc', la', lc', ha', hc', e, hf, hr⟩ := (ObjAt.ext hE h).ex
  simp only [Value.agg.injEq, Array.mk.injEq, List.cons.injEq, Value.slice.injEq, true_and, and_true] at e
  obtain ⟨⟨rfl, rfl⟩, ⟨rfl, rfl⟩, ⟨rfl, rfl⟩, ⟨rfl, rfl⟩, ⟨rfl, rfl⟩, ⟨rfl, rfl⟩, ⟨rfl, rfl⟩, ⟨rfl, rfl⟩⟩ := e
  have el : (turnO x).face.vars.length = x.face.vars.length := stale.len_turn _
  refine ⟨some ⟨g, 0, none⟩, cap, fc, cm, ia, ic, ca, cc, ra, rc, pa, pc, la, lc, ha, hc, ?_, ?_, hr⟩
  · rw [el]; rfl
  · obtain ⟨a1, m1, c1, d1, e1, -, q2, q3, -, -, q6, q7⟩ := hf
    simp only [Value.agg.injEq, Array.mk.injEq, List.cons.injEq, Value.slice.injEq, true_and, and_true] at e1
    obtain ⟨⟨rfl, rfl⟩, ⟨rfl, rfl⟩⟩ := e1
    exact ⟨some ⟨g, 0, none⟩, cap, fc, cm, rfl, hv, q2, q3, by rw [el]; exact h1, h2, q6, q7⟩
theorem turn_get (l : List FObj) (k j : Nat) (h : j < (turnL l k).length) (h' : j < l.length) : (turnL l k)[j] = if k = j then turnO l[j] else l[j] := by
  have e : (turnL l k)[j]? = (if k = j then turnO <$> l[j]? else l[j]?) := by unfold turnL; rw [List.getElem?_modify]; split <;> simp
  rw [List.getElem?_eq_getElem h, List.getElem?_eq_getElem h'] at e
  by_cases hk : k = j
  · rw [if_pos hk] at e ⊢; exact Option.some.inj e
  · rw [if_neg hk] at e ⊢; exact Option.some.inj e
/-- the row of objects, the face of one turned -/
theorem all_turn {w0 w w' : World} {B gm n cm q : Nat} {l : List FObj} (hR : ObjRow w0 w B (.slice (some ⟨gm, 0, none⟩) n cm) l) (hE : Ext w0 w') (hq : q < l.length) (hlt : gm < w'.heap.size)
    {c0 c1 c2 : Value} (hc : ∀ i, (i < q * 13 ∨ q * 13 + 3 ≤ i) → w'.cell? ⟨gm, i, none⟩ = w.cell? ⟨gm, i, none⟩)
    (h0 : w'.cell? ⟨gm, q * 13, none⟩ = some c0) (h1 : w'.cell? ⟨gm, q * 13 + 1, none⟩ = some c1) (h2 : w'.cell? ⟨gm, q * 13 + 2, none⟩ = some c2)
    (hx : ∀ fa am fc cm ia ic ca cc ra rc pa pc la lc ha hc, w.cell? ⟨gm, q * 13 + 2, none⟩ = some (.slice fc l[q].face.procs.length cm) → ObjAt w0 l[q] (.agg #[.string l[q].face.modn, .slice fa l[q].face.vars.length am, .slice fc l[q].face.procs.length cm, .slice ia l[q].imports.length ic, .slice ca l[q].code.length cc, .slice ra l[q].relocs.length rc, .slice pa l[q].procs.length pc, .slice la l[q].lows.length lc, .slice ha l[q].highs.length hc, .int .i64 l[q].low, .int .i64 l[q].high, .int .i64 l[q].lowF, .int .i64 l[q].highF]) →
      ∃ g cap, c0 = .string l[q].face.modn ∧ c1 = .slice (some ⟨g, 0, none⟩) l[q].face.vars.length cap ∧ c2 = .slice fc l[q].face.procs.length cm ∧ AllIn 4 VarIn w' (some ⟨g, 0, none⟩) (turnVs l[q].face.vars) ∧ l[q].face.vars.length ≤ cap ∧ cap ≤ maxLen) :
    AllIn 13 ObjIn w' (some ⟨gm, 0, none⟩) (turnL l q) := by
  intro j hj
  have hjl : j < l.length := by simpa [turnL] using hj
  refine ⟨gm, 0, rfl, hlt, ?_⟩
  rw [Nat.zero_add]
  obtain ⟨us, u1, u2, u3⟩ := hR
  have hju : j < us.length := by omega
  have hl := ObjRow.lens u1 u3
  obtain ⟨rfl⟩ : n = l.length := by
    obtain ⟨k1, k2⟩ := u2
    rcases k2 with ⟨k2, _⟩ | ⟨_, _, _, k2, _⟩
    · cases k2
    · simp at k2; exact k2.2.1
  have hcell : ∀ i, i < 13 → w.cell? ⟨gm, j * 13 + i, none⟩ = us[j][i]? := fun i hi => by rw [u2.cellAt _ (by omega), objs_flat us hl j hju i hi]
  by_cases e : j = q
  · subst e
    have ex : (turnL l j)[j] = turnO l[j] := by rw [turn_get l j j hj hjl, if_pos rfl]
    rw [ex]
    obtain ⟨fa, am, fc, cm', ia, ic, ca, cc, ra, rc, pa, pc, la, lc, ha, hcc, eu, hat⟩ := u3 j hjl hju
    rw [eu] at hcell
    obtain ⟨g, cap, rfl, rfl, rfl, hv, hc1, hc2⟩ := hx fa am fc cm' ia ic ca cc ra rc pa pc la lc ha hcc (hcell 2 (by decide)) hat
    have hk : ∀ i, 3 ≤ i → i < 13 → _ := fun i hi hi2 => (hc (j * 13 + i) (.inr (by omega))).trans (hcell i hi2)
    have el : (turnO l[j]).face.vars.length = l[j].face.vars.length := stale.len_turn _
    refine ⟨some ⟨g, 0, none⟩, cap, fc, cm', ia, ic, ca, cc, ra, rc, pa, pc, la, lc, ha, hcc, h0, ?_, h2, hk 3 (by decide) (by decide), hk 4 (by decide) (by decide), hk 5 (by decide) (by decide), hk 6 (by decide) (by decide), hk 7 (by decide) (by decide), hk 8 (by decide) (by decide), hk 9 (by decide) (by decide), hk 10 (by decide) (by decide), hk 11 (by decide) (by decide), hk 12 (by decide) (by decide), ?_⟩
    · rw [el]; exact h1
    · rw [el]; exact obj_turn hE hat hv hc1 hc2
  · have ex : (turnL l q)[j] = l[j] := by rw [turn_get l q j hj hjl, if_neg (Ne.symm e)]
    rw [ex]
    refine ObjCells.lies ((u3 j hjl hju).ext hE) fun i hi => ?_
    rw [hc (j * 13 + i) (by omega)]
    exact hcell i hi
end staled
end Go.Proofs.YtpcihajmcejliabDoor
