/- What chapter 11's reference says, held against the program's. -/
import Derived.Test.YtpcihajmcejliabGreatDoorRLinkW
namespace Go.Proofs.YtpcihajmcejliabGreatDoor
open Go.RowKit Go.WideMaps Go.Maps
namespace rlink
open linkw face
theorem forms_code {l : List FObj} : ∀ {L : List ByteArray} {m : Nat} {c k : Int}, formsF L l = some (m, c, k) → c ≠ 0 := by
  induction l with
  | nil => intro L m c k h; cases h
  | cons x r ih =>
    intro L m c k h
    unfold formsF at h
    split at h
    · cases h; decide
    · split at h
      · cases h; decide
      · exact ih h
theorem imp1_code {l : List FObj} {i : Nat} {fs : List FFace} : ∀ {q m : Nat} {c k : Int}, impF1 l i q fs = some (m, c, k) → c ≠ 0 := by
  induction fs with
  | nil => intro q m c k h; cases h
  | cons f r ih =>
    intro q m c k h
    unfold impF1 at h
    split at h
    · cases h; decide
    · split at h
      · cases h; decide
      · exact ih h
theorem imp_code {l s : List FObj} : ∀ {i m : Nat} {c k : Int}, impF l i s = some (m, c, k) → c ≠ 0 := by
  induction s with
  | nil => intro i m c k h; cases h
  | cons x r ih =>
    intro i m c k h
    unfold impF at h
    rcases Option.or_eq_some_iff.1 h with h | ⟨-, h⟩
    · exact imp1_code h
    · exact ih h
theorem rel1_code {l : List FObj} {i : Nat} {x : FObj} {fs : List FRel} : ∀ {q m : Nat} {c k : Int}, relF1 l i x q fs = some (m, c, k) → c ≠ 0 := by
  induction fs with
  | nil => intro q m c k h; cases h
  | cons f r ih =>
    intro q m c k h
    unfold relF1 at h
    split at h
    · cases h; decide
    · exact ih h
theorem rel_code {l s : List FObj} : ∀ {i m : Nat} {c k : Int}, relF l i s = some (m, c, k) → c ≠ 0 := by
  induction s with
  | nil => intro i m c k h; cases h
  | cons x r ih =>
    intro i m c k h
    unfold relF at h
    rcases Option.or_eq_some_iff.1 h with h | ⟨-, h⟩
    · exact rel1_code h
    · exact ih h
theorem wrong_cases (l : List FObj) : (∃ (m : Nat) (c k : Int), wrongF l = some (m, c, k) ∧ c ≠ 0 ∧ linkF l = .bad m c k) ∨
    (wrongF l = none ∧ ∃ m, (1 ≤ l.length ∧ l.length ≤ 6) ∧ formsF [] l = none ∧ impF l 0 l = none ∧ relF l 0 l = none ∧ mainF l = some m ∧ linkF l = linkEnd l m) := by
  by_cases h : 1 ≤ l.length ∧ l.length ≤ 6
  · cases h1 : formsF [] l with
    | some t => obtain ⟨m, c, k⟩ := t; exact .inl ⟨m, c, k, wrong_forms h h1, forms_code h1, linkF_forms h h1⟩
    | none =>
      cases h2 : impF l 0 l with
      | some t => obtain ⟨m, c, k⟩ := t; exact .inl ⟨m, c, k, wrong_imp h h1 h2, imp_code h2, linkF_imp h h1 h2⟩
      | none =>
        cases h3 : relF l 0 l with
        | some t => obtain ⟨m, c, k⟩ := t; exact .inl ⟨m, c, k, wrong_rel h h1 h2 h3, rel_code h3, linkF_rel h h1 h2 h3⟩
        | none =>
          cases h4 : mainF l with
          | none => exact .inl ⟨0, 4, 0, wrong_main h h1 h2 h3 h4, by decide, linkF_main h h1 h2 h3 h4⟩
          | some m => exact .inr ⟨wrong_none h h1 h2 h3 h4, m, h, rfl, rfl, rfl, rfl, by unfold linkF; rw [if_pos h, h1, h2, h3, h4]⟩
  · exact .inl ⟨0, 1, 0, wrong_size h, by decide, linkF_size h⟩
theorem rel1_all {l : List FObj} {i : Nat} {x : FObj} {fs : List FRel} : ∀ {q : Nat}, relF1 l i x q fs = none → ∀ r ∈ fs, relOk l x r = true := by
  induction fs with
  | nil => intro q _ r hr; cases hr
  | cons f t ih =>
    intro q h r hr
    unfold relF1 at h
    split at h
    · cases h
    · rename_i h1
      rcases List.mem_cons.1 hr with rfl | hr
      · simpa using h1
      · exact ih h r hr
theorem rel_all {l s : List FObj} : ∀ {i : Nat}, relF l i s = none → ∀ x ∈ s, ∀ r ∈ x.relocs, relOk l x r = true := by
  induction s with
  | nil => intro i _ x hx; cases hx
  | cons y t ih =>
    intro i h x hx r hr
    unfold relF at h
    rw [Option.or_eq_none_iff] at h
    rcases List.mem_cons.1 hx with rfl | hx
    · exact rel1_all h.1 r hr
    · exact ih h.2 x hx r hr
/-- what the reference adds is what the program adds -/
theorem stands_add {l : List FObj} {n : Nat} (hn : l.length = n) (h2 : impF l 0 l = none) (h3 : relF l 0 l = none) {x : FObj} (hx : x ∈ l) {r : FRel} (hr : r ∈ x.relocs) (hk : ¬r.kind = 1) (i : Nat) :
    relAdd l (basesF codeLen 4 l n) (basesF FObj.low 0 l n) (basesF FObj.high 0 l n) i r = standsF l r := by
  have hok := rel_all h3 x hx r hr
  unfold relOk at hok
  have hd : decide (r.kind = 1) = false := by simpa using hk
  rw [hd, Bool.false_or, Bool.and_eq_true] at hok
  obtain ⟨g, hg⟩ := known_there h2 hx hok.1
  obtain ⟨h1, -⟩ := modF_some hg
  have hgl : g < l.length := by simpa [modsF] using h1
  have hgn : g < n := by omega
  have h5 := hok.2
  unfold placeF at h5
  simp only [hg, Option.getD_some, List.getElem?_eq_getElem hgl] at h5
  rw [relAdd, if_neg hk]
  unfold placeF standsF
  simp only [hg, Option.getD_some, List.getElem?_eq_getElem hgl]
  cases hf : linkw.findF (relPick r.kind l[g].procs l[g].lows l[g].highs) r.name with
  | none => rw [hf] at h5; cases h5
  | some a =>
    simp only [Option.getD_some]
    unfold relPick rBase
    split
    · rw [basesF_at FObj.low 0 l hgn]; simp; omega
    · split
      · rw [basesF_at FObj.high 0 l hgn]; simp; omega
      · rw [basesF_at codeLen 4 l hgn]; simp; omega
theorem own_add {l : List FObj} {n i : Nat} (hi : i < n) {r : FRel} (hk : r.kind = 1) (ls hs : List Int) : relAdd l (basesF codeLen 4 l n) ls hs i r = baseF codeLen 4 l i := by
  rw [relAdd, if_pos hk, basesF_at codeLen 4 l hi]; rfl
end rlink
end Go.Proofs.YtpcihajmcejliabGreatDoor
