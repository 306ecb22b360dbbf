/- LinkStale: a row of objects of one's own: each holds the cells of an object that lies elsewhere. -/
import Derived.Test.YtpcihajmcejliabDoorStaleMath
import Derived.Test.YtpcihajmcejliabDoorLinkRun
namespace Go.Proofs.YtpcihajmcejliabDoor
open Go.RowKit Go.WideMaps Go.Maps
/-- the thirteen cells of an object -/
def ObjCells (w : World) (x : FObj) (cs : List Value) : Prop :=
  ∃ fa am fc cm ia ic ca cc ra rc pa pc la lc ha hc,
    cs = [.string x.face.modn, .slice fa x.face.vars.length am, .slice fc x.face.procs.length cm, .slice ia x.imports.length ic, .slice ca x.code.length cc, .slice ra x.relocs.length rc, .slice pa x.procs.length pc, .slice la x.lows.length lc, .slice ha x.highs.length hc, .int .i64 x.low, .int .i64 x.high, .int .i64 x.lowF, .int .i64 x.highF] ∧
    ObjAt w x (.agg #[.string x.face.modn, .slice fa x.face.vars.length am, .slice fc x.face.procs.length cm, .slice ia x.imports.length ic, .slice ca x.code.length cc, .slice ra x.relocs.length rc, .slice pa x.procs.length pc, .slice la x.lows.length lc, .slice ha x.highs.length hc, .int .i64 x.low, .int .i64 x.high, .int .i64 x.lowF, .int .i64 x.highF])
theorem ObjCells.ext {w w' : World} {x : FObj} {cs : List Value} (h : ObjCells w x cs) (hE : Ext w w') : ObjCells w' x cs := by
  obtain ⟨fa, am, fc, cm, ia, ic, ca, cc, ra, rc, pa, pc, la, lc, ha, hc, e, h⟩ := h
  exact ⟨fa, am, fc, cm, ia, ic, ca, cc, ra, rc, pa, pc, la, lc, ha, hc, e, ObjAt.ext hE h⟩
theorem ObjCells.len {w : World} {x : FObj} {cs : List Value} (h : ObjCells w x cs) : cs.length = 13 := by
  obtain ⟨fa, am, fc, cm, ia, ic, ca, cc, ra, rc, pa, pc, la, lc, ha, hc, e, h⟩ := h
  rw [e]; rfl
theorem ObjCells.lies {w : World} {x : FObj} {cs : List Value} {b o : Nat} (h : ObjCells w x cs) (he : ∀ i, i < 13 → w.cell? ⟨b, o + i, none⟩ = cs[i]?) : ObjIn w b o x := by
  obtain ⟨fa, am, fc, cm, ia, ic, ca, cc, ra, rc, pa, pc, la, lc, ha, hc, e, h⟩ := h
  subst e
  exact ⟨fa, am, fc, cm, ia, ic, ca, cc, ra, rc, pa, pc, la, lc, ha, hc, he 0 (by decide), he 1 (by decide), he 2 (by decide), he 3 (by decide), he 4 (by decide), he 5 (by decide), he 6 (by decide), he 7 (by decide), he 8 (by decide), he 9 (by decide), he 10 (by decide), he 11 (by decide), he 12 (by decide), h⟩
/-- a row of one's own -/
def ObjRow (w0 w : World) (B : Nat) (v : Value) (l : List FObj) : Prop :=
  ∃ us : List (List Value), us.length = l.length ∧ w.ownsRow B 39 13 v l.length us.flatten ∧ ∀ j (h : j < l.length) (h' : j < us.length), ObjCells w0 l[j] us[j]
theorem objs_flat : ∀ (us : List (List Value)) (_ : ∀ u ∈ us, u.length = 13) (j : Nat) (h : j < us.length) (i : Nat) (_ : i < 13), us.flatten[j * 13 + i]? = us[j][i]? := by
  intro us
  induction us with
  | nil => intro _ j h; cases h
  | cons u r ih =>
    intro hl j h i hi
    have hu := hl u (List.mem_cons_self ..)
    rw [List.flatten_cons]
    cases j with
    | zero => rw [List.getElem?_append_left (by omega)]; simp
    | succ j =>
      rw [List.getElem?_append_right (by omega), show (j + 1) * 13 + i - u.length = j * 13 + i by omega, ih (fun u hu => hl u (List.mem_cons_of_mem _ hu)) j (by simpa using h) i hi]
      simp
theorem ObjRow.lens {w0 : World} {l : List FObj} {us : List (List Value)} (h1 : us.length = l.length) (h3 : ∀ j (h : j < l.length) (h' : j < us.length), ObjCells w0 l[j] us[j]) : ∀ u ∈ us, u.length = 13 := by
  intro u hu
  obtain ⟨j, hj, rfl⟩ := List.getElem_of_mem hu
  exact (h3 j (by omega) hj).len
theorem ObjRow.nil (w0 w : World) (B : Nat) : ObjRow w0 w B (.slice none 0 0) [] := ⟨[], rfl, World.ownsRow_nil _ _ _ _, fun j h => by simp at h⟩
theorem ObjRow.chg {w0 w w' : World} {B : Nat} {v : Value} {l : List FObj} {S : Nat → Prop} (h : ObjRow w0 w B v l) (hc : Chg S w w') (hS : ∀ i, S i → i < B) : ObjRow w0 w' B v l := by
  obtain ⟨us, h1, h2, h3⟩ := h
  exact ⟨us, h1, ownsRow_chg h2 hc fun i hi hs => by have := hS i hs; omega, h3⟩
theorem ObjRow.ext {w0 w w' : World} {B : Nat} {v : Value} {l : List FObj} (h : ObjRow w0 w B v l) (hE : Ext w w') : ObjRow w0 w' B v l := h.chg hE fun _ h => h.elim
theorem ObjRow.push {w0 w' : World} {B : Nat} {v' : Value} {l : List FObj} {us : List (List Value)} {cs : List Value} {x : FObj} (h1 : us.length = l.length) (h3 : ∀ j (h : j < l.length) (h' : j < us.length), ObjCells w0 l[j] us[j])
    (hx : ObjCells w0 x cs) (ho : w'.ownsRow B 39 13 v' (l.length + 1) (us.flatten ++ cs)) : ObjRow w0 w' B v' (l ++ [x]) := by
  refine ⟨us ++ [cs], by simp [h1], ?_, fun j h h' => ?_⟩
  · rw [List.length_append, List.flatten_append]; simpa using ho
  · by_cases hj : j < l.length
    · rw [List.getElem_append_left hj, List.getElem_append_left (by omega)]; exact h3 j hj (by omega)
    · obtain rfl : j = l.length := by simp at h; omega
      rw [List.getElem_append_right (by omega), List.getElem_append_right (by omega)]
      simpa using hx
theorem ObjRow.lies {w0 w : World} {B : Nat} {v : Value} {l : List FObj} (h : ObjRow w0 w B v l) (hn : 0 < l.length) : ∃ g cap, v = .slice (some ⟨g, 0, none⟩) l.length cap ∧ l.length ≤ cap ∧ cap ≤ maxLen ∧ B ≤ g := by
  obtain ⟨us, h1, ⟨g1, g2⟩, h3⟩ := h
  rcases g2 with ⟨_, g2⟩ | ⟨g, cap', cur, e, hb, hh, k3, k4, k5, k6⟩
  · omega
  · exact ⟨g, cap', e, k3, k4, hb⟩
/-- the objects lie in it -/
theorem ObjRow.all {w0 w : World} {B : Nat} {a : Option Addr} {n cap : Nat} {l : List FObj} (h : ObjRow w0 w B (.slice a n cap) l) (hE : Ext w0 w) (hn : 0 < l.length) : n = l.length ∧ AllIn 13 ObjIn w a l := by
  obtain ⟨us, h1, h2, h3⟩ := h
  have h2' := h2
  obtain ⟨g1, g2⟩ := h2
  rcases g2 with ⟨_, g2⟩ | ⟨g, cap', cur, e, hb, hh, k3, k4, k5, k6⟩
  · omega
  · obtain ⟨rfl, rfl, rfl⟩ : a = some ⟨g, 0, none⟩ ∧ n = l.length ∧ cap = cap' := by simpa using e
    refine ⟨rfl, fun j hj => ⟨g, 0, rfl, (World.ownsRow.lt h2' g rfl).2, ?_⟩⟩
    have hl := ObjRow.lens h1 h3
    refine ObjCells.lies ((h3 j hj (by omega)).ext hE) fun i hi => ?_
    rw [Nat.zero_add, h2'.cellAt _ (by omega), objs_flat us hl j (by omega) i hi]
end Go.Proofs.YtpcihajmcejliabDoor
