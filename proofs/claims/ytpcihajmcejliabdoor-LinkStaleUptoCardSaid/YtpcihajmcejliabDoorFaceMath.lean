/- Faces, in plain Lean; and how one lies in memory. -/
import Derived.Test.YtpcihajmcejliabDoorNameMath
import Derived.Test.YtpcihajmcejliabDoorFaceDefs
import Derived.Maps.OwnSet
import Derived.Maps.OwnOps
namespace Go.Proofs.YtpcihajmcejliabDoor
open Go.RowKit Go.WideMaps Go.Maps
def labB (n : Int) : Bool := n == 0 || n == 1
/-- what is asked of a variable but for its name -/
def varT (v : FVar) : Bool := v.pub && labB v.label && decide (0 ≤ v.size) && decide (v.size ≤ 64)
def procT (p : FProc) : Bool := p.pub && decide (p.params.length ≤ 5) && labB p.writes && labB p.given && (p.gives || p.given == 0) && p.params.all labB
def FVar.key (v : FVar) : List UInt8 := v.name.data.toList
def FProc.key (p : FProc) : List UInt8 := p.name.data.toList
def FFace.keys (f : FFace) : List (List UInt8) := f.vars.map FVar.key ++ f.procs.map FProc.key
def distinctB : List (List UInt8) → Bool
  | [] => true
  | x :: r => !r.contains x && distinctB r
def mayFaceB (f : FFace) : Bool :=
  nameB f.modn.data.toList && decide (f.vars.length + f.procs.length ≤ 20) && f.vars.all varT && f.procs.all procT && f.keys.all nameB && distinctB f.keys
namespace face
theorem distinct_append_one (l : List (List UInt8)) (x : List UInt8) : distinctB (l ++ [x]) = (distinctB l && !l.contains x) := by
  induction l with
  | nil => simp [distinctB]
  | cons y r ih =>
    have e1 : (r ++ [x]).contains y = (r.contains y || decide (y = x)) := by
      rw [Bool.eq_iff_iff]; simp
    have e2 : (y :: r).contains x = (decide (y = x) || r.contains x) := by
      rw [List.contains_cons, Bool.eq_iff_iff]
      simp only [Bool.or_eq_true, beq_iff_eq, decide_eq_true_eq]
      constructor
      · rintro (h | h)
        · exact .inl h.symm
        · exact .inr h
      · rintro (h | h)
        · exact .inl h.symm
        · exact .inr h
    simp only [List.cons_append, distinctB, ih, e1, e2]
    cases r.contains y <;> cases r.contains x <;> cases distinctB r <;> cases decide (y = x) <;> rfl
/-- a map whose keys are those of a list -/
def MapOf {H : Type} (D : DataW H) (L : List (List UInt8)) : Prop :=
  (∀ s, has D (.string s) = L.contains s) ∧ Maps.size D ≤ L.length ∧ (distinctB L = decide (Maps.size D = L.length))
theorem mapOf_nil {H : Type} : MapOf (.map [] : DataW H) [] := ⟨fun _ => rfl, Nat.le_refl _, rfl⟩
theorem mapOf_put {H : Type} {D : DataW H} {L : List (List UInt8)} (h : MapOf D L) (ht : Tidy D) (x : List UInt8) (d : DataW H) : MapOf (D.put (.string x) d) (L ++ [x]) := by
  obtain ⟨h1, h2, h3⟩ := h
  have hk : WideAt.IsKeyLit (.string x) := by trivial
  have hsz := size_put ht (k := .string x) d
  refine ⟨fun s => ?_, ?_, ?_⟩
  · by_cases hs : s = x
    · subst hs
      rw [has_put_same ht.isMap hk]
      simp
    · rw [has_put_other (by simpa using hs), h1]
      simp [hs]
  · rw [hsz, List.length_append]
    simp
    split <;> omega
  · rw [distinct_append_one, h3, hsz, h1 x]
    simp only [List.length_append, List.length_singleton]
    cases hc : L.contains x
    · simp
    · simp; omega
theorem all_snoc {α : Type} (p : α → Bool) (l : List α) (k : Nat) (h : k < l.length) : (l.take (k + 1)).all p = ((l.take k).all p && p l[k]) := by
  rw [List.take_succ_eq_append_getElem h, List.all_append, List.all_cons, List.all_nil, Bool.and_true]
theorem all_bad {α : Type} {p : α → Bool} {l : List α} {k : Nat} (h : k < l.length) (hp : p l[k] = false) : l.all p = false := by
  rw [Bool.eq_false_iff]
  intro ha
  rw [List.all_eq_true] at ha
  rw [ha _ (List.getElem_mem h)] at hp
  cases hp
theorem all_whole {α : Type} {p : α → Bool} {l : List α} {k : Nat} (h : l.length = k) (hp : (l.take k).all p = true) : l.all p = true := by
  rw [List.take_of_length_le (by omega)] at hp; exact hp
theorem distinct_left (a b : List (List UInt8)) (h : distinctB (a ++ b) = true) : distinctB a = true := by
  induction a with
  | nil => rfl
  | cons x r ih =>
    simp only [List.cons_append, distinctB, Bool.and_eq_true, Bool.not_eq_true', List.contains_eq_mem, decide_eq_false_iff_not, List.mem_append] at h ⊢
    exact ⟨fun hx => h.1 (.inl hx), ih h.2⟩
/-- names, each of them one, each once -/
def goodB (l : List (List UInt8)) : Bool := l.all nameB && distinctB l
theorem good_snoc (l : List (List UInt8)) (k : Nat) (h : k < l.length) : goodB (l.take (k + 1)) = (goodB (l.take k) && nameB l[k] && !(l.take k).contains l[k]) := by
  unfold goodB
  rw [all_snoc nameB l k h, List.take_succ_eq_append_getElem h, distinct_append_one]
  cases (l.take k).all nameB <;> cases nameB l[k] <;> cases distinctB (l.take k) <;> cases (l.take k).contains l[k] <;> rfl
theorem good_bad {l : List (List UInt8)} {k : Nat} (h : goodB (l.take k) = false) : goodB l = false := by
  rw [Bool.eq_false_iff] at h ⊢
  intro hg
  refine h ?_
  unfold goodB at hg ⊢
  rw [Bool.and_eq_true] at hg ⊢
  have e : l = l.take k ++ l.drop k := (List.take_append_drop k l).symm
  rw [e] at hg
  exact ⟨by have := hg.1; rw [List.all_append, Bool.and_eq_true] at this; exact this.1, distinct_left _ _ hg.2⟩
theorem may_eq (f : FFace) : mayFaceB f = (nameB f.modn.data.toList && decide (f.vars.length + f.procs.length ≤ 20) && f.vars.all varT && f.procs.all procT && goodB f.keys) := by
  unfold mayFaceB goodB
  cases nameB f.modn.data.toList <;> cases decide (f.vars.length + f.procs.length ≤ 20) <;> cases f.vars.all varT <;> cases f.procs.all procT <;> cases f.keys.all nameB <;> cases distinctB f.keys <;> rfl
end face
end Go.Proofs.YtpcihajmcejliabDoor
