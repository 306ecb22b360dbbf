/- LinkStale in plain Lean: a label turned in a face that one knows. -/
import Derived.Test.YtpcihajmcejliabDoorLinkDef
namespace Go.Proofs.YtpcihajmcejliabDoor
open Go.RowKit Go.WideMaps Go.Maps
/-- a variable with the other label -/
def turnV (v : FVar) : FVar := { v with label := 1 - v.label }
def turnVs : List FVar → List FVar
  | [] => []
  | v :: r => turnV v :: r
def turnF (f : FFace) : FFace := { f with vars := turnVs f.vars }
def turnO (x : FObj) : FObj := { x with face := turnF x.face }
def turnL (l : List FObj) (k : Nat) : List FObj := l.modify k turnO
namespace stale
open linkw face
theorem keys_turn (vs : List FVar) : (turnVs vs).map FVar.key = vs.map FVar.key := by cases vs <;> rfl
theorem turn_ok (n : Int) : labB (1 - n) = labB n := by
  unfold labB
  by_cases h0 : n = 0
  · subst h0; rfl
  · by_cases h1 : n = 1
    · subst h1; rfl
    · have e1 : (n == 0) = false := by simpa using h0
      have e2 : (n == 1) = false := by simpa using h1
      have e3 : (1 - n == 0) = false := by simp; omega
      have e4 : (1 - n == 1) = false := by simp; omega
      rw [e1, e2, e3, e4]
theorem vars_turn (vs : List FVar) : (turnVs vs).all varT = vs.all varT := by
  cases vs with
  | nil => rfl
  | cons v r =>
    simp only [turnVs, List.all_cons]
    have : varT (turnV v) = varT v := by
      unfold varT
      show (v.pub && labB (1 - v.label) && decide (0 ≤ v.size) && decide (v.size ≤ 64)) = _
      rw [turn_ok]
    rw [this]
theorem len_turn (vs : List FVar) : (turnVs vs).length = vs.length := by cases vs <;> rfl
theorem face_turn (f : FFace) : mayFaceB (turnF f) = mayFaceB f := by
  unfold mayFaceB FFace.keys turnF
  simp only [keys_turn, vars_turn, len_turn]
theorem obj_turn (x : FObj) : mayObjB (turnO x) = mayObjB x := by
  unfold mayObjB facesB codeB
  simp only [turnO, face_turn]
  rfl
theorem mods_turn (l : List FObj) (k : Nat) : modsF (turnL l k) = modsF l := by
  unfold modsF turnL
  induction l generalizing k with
  | nil => simp
  | cons x r ih =>
    cases k with
    | zero => rfl
    | succ k => simp only [List.modify_succ_cons, List.map_cons, ih]
theorem forms_turn (l : List FObj) (k : Nat) : ∀ L, formsF L (turnL l k) = formsF L l := by
  unfold turnL
  induction l generalizing k with
  | nil => intro L; simp
  | cons x r ih =>
    intro L
    cases k with
    | zero =>
      show formsF L (turnO x :: r) = formsF L (x :: r)
      unfold formsF
      rw [obj_turn]
      rfl
    | succ k =>
      show formsF L (x :: r.modify k turnO) = formsF L (x :: r)
      unfold formsF
      rw [ih]
theorem face_ne {f : FFace} (h : f.vars ≠ []) : f ≠ turnF f := by
  intro e
  obtain ⟨n, vs, ps⟩ := f
  simp only at h
  cases vs with
  | nil => exact h rfl
  | cons v r =>
    have h1 : v = turnV v := by
      have := congrArg FFace.vars e
      simp only [turnF, turnVs, List.cons.injEq] at this
      exact this.1
    have h2 := congrArg FVar.label h1
    simp only [turnV] at h2
    omega
/-- imports that pass, but for those of the module that is turned -/
theorem imp1_turn {l : List FObj} {k i : Nat} (hk : k < l.length) (hne : l[k].face ≠ turnF l[k].face) {fs : List FFace} : ∀ {q : Nat}, impF1 l i q fs = none →
    (impF1 (turnL l k) i q fs = none ∧ ∀ f ∈ fs, modF (modsF l) f.modn ≠ some k) ∨ ∃ p : Int, impF1 (turnL l k) i q fs = some (i, 3, p) := by
  induction fs with
  | nil => intro q _; exact .inl ⟨rfl, fun f hf => by cases hf⟩
  | cons f r ih =>
    intro q h
    unfold impF1 at h ⊢
    rw [mods_turn]
    cases hm : modF (modsF l) f.modn with
    | none => rw [hm] at h; cases h
    | some n =>
      rw [hm] at h
      simp only at h ⊢
      split at h
      · cases h
      · rename_i h1
        have hf : f = faceAtF l n := by simpa using h1
        by_cases e : n = k
        · subst e
          have e1 : faceAtF (turnL l n) n = turnF l[n].face := by
            unfold faceAtF turnL
            rw [List.getElem?_modify]
            simp [hk, turnO]
          have e2 : faceAtF l n = l[n].face := by unfold faceAtF; simp [hk]
          have e3 : decide (f = faceAtF (turnL l n) n) = false := by
            rw [e1, hf, e2]; simpa using hne
          rw [e3]
          exact .inr ⟨q, rfl⟩
        · have e1 : faceAtF (turnL l k) n = faceAtF l n := by
            unfold faceAtF turnL
            rw [List.getElem?_modify]
            have : (k = n) = False := by simp; omega
            simp [this]
          have e3 : decide (f = faceAtF (turnL l k) n) = true := by rw [e1]; simpa using hf
          rw [e3]
          simp only [Bool.true_eq_false, if_false]
          rcases ih h with ⟨h2, h3⟩ | h2
          · refine .inl ⟨h2, fun f' hf' => ?_⟩
            rcases List.mem_cons.1 hf' with rfl | hf'
            · rw [hm]; intro e'; exact e (Option.some.inj e')
            · exact h3 f' hf'
          · exact .inr h2
theorem imp_turn {l : List FObj} {k : Nat} (hk : k < l.length) (hne : l[k].face ≠ turnF l[k].face) {s : List FObj} : ∀ {i : Nat}, impF l i s = none →
    (impF (turnL l k) i s = none ∧ ∀ x ∈ s, ∀ f ∈ x.imports, modF (modsF l) f.modn ≠ some k) ∨ ∃ (m : Nat) (p : Int), impF (turnL l k) i s = some (m, 3, p) := by
  induction s with
  | nil => intro i _; exact .inl ⟨rfl, fun x hx => by cases hx⟩
  | cons x r ih =>
    intro i h
    unfold impF at h ⊢
    rw [Option.or_eq_none_iff] at h
    rcases imp1_turn hk hne (i := i) h.1 with ⟨h1, h2⟩ | ⟨p, h1⟩
    · rw [h1, Option.none_or]
      rcases ih h.2 with ⟨h3, h4⟩ | h3
      · refine .inl ⟨h3, fun y hy => ?_⟩
        rcases List.mem_cons.1 hy with rfl | hy
        · exact h2
        · exact h4 y hy
      · exact .inr h3
    · exact .inr ⟨i, p, by rw [h1]; rfl⟩
/-- the imports of the turned list are the list's own, but for the faces -/
theorem imp_list (L : List FObj) (l : List FObj) (k : Nat) : ∀ i, impF L i (turnL l k) = impF L i l := by
  unfold turnL
  induction l generalizing k with
  | nil => intro i; simp
  | cons x r ih =>
    intro i
    cases k with
    | zero => rfl
    | succ k =>
      show impF L i (x :: r.modify k turnO) = impF L i (x :: r)
      unfold impF
      rw [ih]
theorem forms_own {l : List FObj} : ∀ {L : List ByteArray}, formsF L l = none → ∀ (k : Nat) (h : k < l.length), modF (L ++ modsF l) l[k].face.modn = some (L.length + k) := by
  induction l with
  | nil => intro L _ k h; cases h
  | cons x r ih =>
    intro L h k hk
    unfold formsF at h
    split at h
    · cases h
    · split at h
      · cases h
      · rename_i h2
        have hn : modF L x.face.modn = none := by simpa using h2
        cases k with
        | zero =>
          have e : L ++ modsF (x :: r) = (L ++ [x.face.modn]) ++ modsF r := by simp [modsF]
          rw [e]
          have h3 : modF (L ++ [x.face.modn]) x.face.modn = some L.length := by rw [modF_snoc, hn]; simp
          have h4 : ∀ (A B : List ByteArray) (s : ByteArray) (i : Nat), modF A s = some i → modF (A ++ B) s = some i := by
            intro A
            induction A with
            | nil => intro B s i h; cases h
            | cons a t ih2 =>
              intro B s i h
              simp only [List.cons_append, modF] at h ⊢
              split
              · rename_i e; rw [if_pos e] at h; exact h
              · rename_i e
                rw [if_neg e] at h
                cases hm : modF t s with
                | none => rw [hm] at h; cases h
                | some j => rw [hm] at h; rw [ih2 B s j hm]; exact h
          exact h4 _ _ _ _ h3
        | succ k =>
          have := ih h k (by simpa using hk)
          have e : L ++ modsF (x :: r) = (L ++ [x.face.modn]) ++ modsF r := by simp [modsF]
          rw [e]
          simp only [List.getElem_cons_succ]
          rw [this, List.length_append, List.length_singleton]
          congr 1; omega
theorem good_facts {l : List FObj} {is : List Ins} {lo hi : Int} (h : linkF l = .good is lo hi) : (1 ≤ l.length ∧ l.length ≤ 6) ∧ formsF [] l = none ∧ impF l 0 l = none := by
  unfold linkF at h
  split at h
  · rename_i h0
    split at h
    · cases h
    · rename_i h1
      split at h
      · cases h
      · rename_i h2
        exact ⟨h0, h1, h2⟩
  · cases h
theorem forms_code {l : List FObj} : ∀ {L : List ByteArray} {t : Nat × Int × Int}, formsF L l = some t → t.2.1 ≠ 0 := by
  induction l with
  | nil => intro L t h; cases h
  | cons x r ih =>
    intro L t h
    unfold formsF at h
    split at h
    · cases h; show (2 : Int) ≠ 0; decide
    · split at h
      · cases h; show (5 : Int) ≠ 0; decide
      · exact ih h
theorem imp1_code {l : List FObj} {i : Nat} {fs : List FFace} : ∀ {q : Nat} {t : Nat × Int × Int}, impF1 l i q fs = some t → t.2.1 ≠ 0 := by
  induction fs with
  | nil => intro q t h; cases h
  | cons f r ih =>
    intro q t h
    unfold impF1 at h
    split at h
    · cases h; show (4 : Int) ≠ 0; decide
    · split at h
      · cases h; show (3 : Int) ≠ 0; decide
      · exact ih h
theorem imp_code {l s : List FObj} : ∀ {i : Nat} {t : Nat × Int × Int}, impF l i s = some t → t.2.1 ≠ 0 := by
  induction s with
  | nil => intro i t h; cases h
  | cons x r ih =>
    intro i t h
    unfold impF at h
    cases h1 : impF1 l i 0 x.imports with
    | none => rw [h1] at h; exact ih (by simpa using h)
    | some t' => rw [h1] at h; simp only [Option.some_or, Option.some.injEq] at h; subst h; exact imp1_code h1
theorem rel1_code {l : List FObj} {i : Nat} {x : FObj} {fs : List FRel} : ∀ {q : Nat} {t : Nat × Int × Int}, relF1 l i x q fs = some t → t.2.1 ≠ 0 := by
  induction fs with
  | nil => intro q t h; cases h
  | cons f r ih =>
    intro q t h
    unfold relF1 at h
    split at h
    · cases h; show (4 : Int) ≠ 0; decide
    · exact ih h
theorem rel_code {l s : List FObj} : ∀ {i : Nat} {t : Nat × Int × Int}, relF l i s = some t → t.2.1 ≠ 0 := by
  induction s with
  | nil => intro i t h; cases h
  | cons x r ih =>
    intro i t h
    unfold relF at h
    cases h1 : relF1 l i x 0 x.relocs with
    | none => rw [h1] at h; exact ih (by simpa using h)
    | some t' => rw [h1] at h; simp only [Option.some_or, Option.some.injEq] at h; subst h; exact rel1_code h1
theorem ord1_code {is : List Ins} {i base : Nat} : ∀ {q k : Nat} {t : Nat × Int × Int}, ordF1 is i base k q = some t → t.2.1 ≠ 0 := by
  intro q
  induction q with
  | zero => intro k t h; cases h
  | succ q ih =>
    intro k t h
    unfold ordF1 at h
    split at h
    · cases h; show (6 : Int) ≠ 0; decide
    · exact ih h
theorem ord_code {is : List Ins} {s : List FObj} : ∀ {i base : Nat} {t : Nat × Int × Int}, ordF is i base s = some t → t.2.1 ≠ 0 := by
  induction s with
  | nil => intro i base t h; cases h
  | cons x r ih =>
    intro i base t h
    unfold ordF at h
    cases h1 : ordF1 is i base 0 x.code.length with
    | none => rw [h1] at h; exact ih (by simpa using h)
    | some t' => rw [h1] at h; simp only [Option.some_or, Option.some.injEq] at h; subst h; exact ord1_code h1
theorem bad_code {l : List FObj} {m : Nat} {c p : Int} (h : linkF l = .bad m c p) : c ≠ 0 := by
  have he : ∀ mm, linkEnd l mm = .bad m c p → c ≠ 0 := fun mm h => by
    unfold linkEnd at h
    split at h
    · rename_i t h2
      cases h
      unfold movErr at h2
      split at h2
      · exact ord_code h2
      · cases h2; decide
    · cases h
  unfold linkF at h
  split at h
  · split at h
    · rename_i h1; cases h; exact forms_code h1
    · split at h
      · rename_i h1; cases h; exact imp_code h1
      · split at h
        · rename_i h1; cases h; exact rel_code h1
        · split at h
          · cases h; decide
          · exact he _ h
  · cases h; decide
/-- a face that is known, a label turned: the objects are linked no more -/
theorem stale {l : List FObj} {is : List Ins} {lo hi : Int} (h : linkF l = .good is lo hi) {k : Nat} (hk : k < l.length) (hv : l[k].face.vars ≠ []) (hkn : ∃ x ∈ l, ∃ f ∈ x.imports, f.modn = l[k].face.modn) :
    ∃ (m : Nat) (p : Int), linkF (turnL l k) = .bad m 3 p := by
  obtain ⟨h0, h1, h2⟩ := good_facts h
  have hl : (turnL l k).length = l.length := by unfold turnL; simp
  have h3 : impF (turnL l k) 0 (turnL l k) = impF (turnL l k) 0 l := imp_list _ l k 0
  rcases imp_turn hk (face_ne hv) h2 with ⟨-, h4⟩ | ⟨m, p, h4⟩
  · exfalso
    obtain ⟨x, hx, f, hf, e⟩ := hkn
    have h5 := forms_own h1 k hk
    simp only [List.nil_append, List.length_nil, Nat.zero_add] at h5
    exact h4 x hx f hf (by rw [e]; exact h5)
  · exact ⟨m, p, linkF_imp (by rw [hl]; exact h0) (by rw [forms_turn]; exact h1) (by rw [h3]; exact h4)⟩
end stale
end Go.Proofs.YtpcihajmcejliabDoor
