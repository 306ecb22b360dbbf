/- The reference's Is says just what form a node has that is read. The walk of Print. The walk of the law SyntaxPrints: both Prints come to one text, or tell the same fault. -/
import Derived.Defers
import Derived.Test.YtpcihajmcejliabGreatDoorRPrB
import Derived.Test.YtpcihajmcejliabGreatDoorRPrJ
import Derived.Test.YtpcihajmcejliabGreatDoorRPrI
namespace Go.Proofs.YtpcihajmcejliabGreatDoor
open Go.RowKit
namespace rpr
open synw synr prt
theorem isL_const {k : Int} {N : Nat} {c : Int → Bool} (hk : ∀ i prev kind, kfF k ((N : Int) - 1) i prev kind = c kind) : ∀ (l : List Nd) (q : Nat) (p : Int), isL k N l q p = true ↔ ∀ y ∈ l, c y.kd = true ∧ isF y = true := by
 intro l; induction l with
 | nil => intro q p; simp [isL]
 | cons y r ih => intro q p; rw [isL, Bool.and_eq_true, Bool.and_eq_true, hk, ih, List.forall_mem_cons]
theorem isL_proc {N : Nat} : ∀ (l : List Nd) (q : Nat) (p : Int), q + l.length = N → l ≠ [] → (isL 4 N l q p = true ↔ ∃ ps b, l = ps ++ [b] ∧ (∀ y ∈ ps, y.kd = 5 ∧ isF y = true) ∧ b.kd = 6 ∧ isF b = true) := by
 intro l; induction l with
 | nil => intro q p _ h; exact absurd rfl h
 | cons y r ih =>
  intro q p hN _; rw [List.length_cons] at hN; rw [isL, Bool.and_eq_true, Bool.and_eq_true]; by_cases hr : r = []
  ·subst hr
   have hq : (q : Int) = (N : Int) - 1 := by simp at hN; omega
   have e : kfF 4 ((N : Int) - 1) q p y.kd = decide (y.kd = 6) := by unfold kfF; simp [hq]
   rw [e, isL, decide_eq_true_eq]; constructor
   ·rintro ⟨⟨h1, h2⟩, -⟩
    exact ⟨[], y, rfl, fun z hz => (by cases hz), h1, h2⟩
   ·rintro ⟨ps, b, e, -, h1, h2⟩
    have : ps = [] ∧ b = y := by
     cases ps with
     | nil => injection e with e _; exact ⟨rfl, e.symm⟩
     | cons z zs => injection e with _ e; simp at e
    obtain ⟨rfl, rfl⟩ := this; exact ⟨⟨h1, h2⟩, rfl⟩
  ·have hrl : 0 < r.length := List.length_pos_iff.2 hr
   have hq : ¬ (q : Int) = (N : Int) - 1 := by omega
   have e : kfF 4 ((N : Int) - 1) q p y.kd = decide (y.kd = 5) := by unfold kfF; simp [hq]
   rw [e, ih (q + 1) y.kd (by omega) hr, decide_eq_true_eq]; constructor
   ·rintro ⟨⟨h1, h2⟩, ps, b, rfl, h3, h4, h5⟩
    exact ⟨y :: ps, b, rfl, List.forall_mem_cons.2 ⟨⟨h1, h2⟩, h3⟩, h4, h5⟩
   ·rintro ⟨ps, b, e, h3, h4, h5⟩
    cases ps with
    | nil => injection e with _ e; exact absurd e hr
    | cons z zs =>
     injection e with e1 e2
     subst e1; rw [List.forall_mem_cons] at h3; exact ⟨h3.1, zs, b, e2, h3.2, h4, h5⟩
theorem isL_mod {N : Nat} : ∀ (l : List Nd) (q : Nat) (p : Int), isL 1 N l q p = true ↔ (∀ y ∈ l, isF y = true) ∧ ∃ a b, l = a ++ b ∧ (¬ (q = 0 ∨ p = 2) → a = []) ∧ (∀ y ∈ a, y.kd = 2) ∧ ∀ y ∈ b, y.kd = 3 ∨ y.kd = 4 := by
 intro l; induction l with
 | nil => intro q p; exact ⟨fun _ => ⟨noK, [], [], rfl, fun _ => rfl, noK, noK⟩, fun _ => by simp [isL]⟩
 | cons y r ih =>
  intro q p; rw [isL, Bool.and_eq_true, Bool.and_eq_true, ih, List.forall_mem_cons]; by_cases h2 : y.kd = 2
  ·have e : kfF 1 ((N : Int) - 1) q p y.kd = true ↔ (q = 0 ∨ p = 2) := by unfold kfF; simp [h2]
   rw [e]; constructor
   ·rintro ⟨⟨hd, h1⟩, h3, a, b, rfl, -, ha, hb⟩
    exact ⟨⟨h1, h3⟩, y :: a, b, rfl, fun h => absurd hd h, List.forall_mem_cons.2 ⟨h2, ha⟩, hb⟩
   ·rintro ⟨⟨h1, h3⟩, a, b, e, hda, ha, hb⟩
    cases a with
    | nil =>
     rw [List.nil_append] at e; subst e; exact absurd (hb y (by simp)) (by omega)
    | cons z a =>
     rw [List.cons_append] at e; injection e with e1 e2
     subst e1; refine ⟨⟨?_, h1⟩, h3, a, b, e2, fun h => absurd (.inr h2) h, fun z hz => ha z (by simp [hz]), hb⟩
     exact Classical.byContradiction fun h => by cases hda h
  ·have e : kfF 1 ((N : Int) - 1) q p y.kd = true ↔ (y.kd = 3 ∨ y.kd = 4) := by unfold kfF; simp [h2]
   rw [e]; constructor
   ·rintro ⟨⟨hd, h1⟩, h3, a, b, rfl, hda, ha, hb⟩
    obtain rfl := hda (by omega); exact ⟨⟨h1, h3⟩, [], y :: b, rfl, fun _ => rfl, noK, List.forall_mem_cons.2 ⟨hd, hb⟩⟩
   ·rintro ⟨⟨h1, h3⟩, a, b, e, hda, ha, hb⟩
    cases a with
    | cons z a =>
     rw [List.cons_append] at e; injection e with e1 e2
     subst e1; exact absurd (ha y (by simp)) h2
    | nil =>
     rw [List.nil_append] at e; subst e; rw [List.forall_mem_cons] at hb; exact ⟨⟨hb.1, h1⟩, h3, [], r, rfl, fun _ => rfl, noK, hb.2⟩
theorem sg_some {m : Int} : (!decide ((signF m).1 = noText)) = true ↔ 1 ≤ m ∧ m ≤ 9 := by
 constructor
 ·intro h
  refine sign_iff.1 ?_
  unfold signF at h ⊢
  repeat' split
  all_goals first | decide | (exfalso; simp_all; done)
 ·intro h
  have h2 : m = 1 ∨ m = 2 ∨ m = 3 ∨ m = 4 ∨ m = 5 ∨ m = 6 ∨ m = 7 ∨ m = 8 ∨ m = 9 := by omega
  rcases h2 with rfl | rfl | rfl | rfl | rfl | rfl | rfl | rfl | rfl <;> decide
theorem tx0 {t : ByteArray} : textsF t 0 = true ↔ t = noText := by simp [textsF]
theorem tx1 {t : ByteArray} : textsF t 1 = true ↔ NameT t := by simp [textsF, NameT]
theorem isF_iff : ∀ (x : Nd), Rng x → (isF x = true ↔ IsNd x) := by
 refine nd_ind fun k t m l ih hr => ?_
 have hk := hr.kids; have hm := hr.num; have kid : ∀ y ∈ l, isF y = true ↔ IsNd y := fun y hy => ih y hy (hk y hy)
 rw [isF, Bool.and_eq_true]; constructor
 ·rintro ⟨h, hl⟩
  by_cases hk21 : 1 ≤ k ∧ k ≤ 21
  ·have hkk : k = 1 ∨ k = 2 ∨ k = 3 ∨ k = 4 ∨ k = 5 ∨ k = 6 ∨ k = 7 ∨ k = 8 ∨ k = 9 ∨ k = 10 ∨ k = 11 ∨ k = 12 ∨ k = 13 ∨ k = 14 ∨ k = 15 ∨ k = 16 ∨ k = 17 ∨ k = 18 ∨ k = 19 ∨ k = 20 ∨ k = 21 := by omega
   unfold isH at h; simp only [Bool.and_eq_true, Bool.or_eq_true, decide_eq_true_eq] at h; obtain ⟨⟨⟨⟨-, c1⟩, c2⟩, c3⟩, c4⟩ := h; rcases hkk with rfl | rfl | rfl | rfl | rfl | rfl | rfl | rfl | rfl | rfl | rfl | rfl | rfl | rfl | rfl | rfl | rfl | rfl | rfl | rfl | rfl
   ·obtain ⟨h1, a, b, rfl, -, ha, hb⟩ := (isL_mod l 0 0).1 hl
    obtain rfl : m = 0 := by simp [cntF] at c4; omega
    exact .mk (.module (tx1.1 c3) ha hb) fun y hy => (kid y hy).1 (h1 y hy)
   ·obtain rfl := len0 (l := l) (by simpa [cntF] using c2)
    obtain rfl : m = 0 := by simp [cntF] at c4; omega
    exact .mk (.imp (tx1.1 c3)) noK
   ·have hm0 : 0 ≤ m ∧ m ≤ 3 := by simpa [cntF] using c4
    have h1 : (l.length : Int) ≤ 1 := by simp [cntF] at c2; omega
    rcases l with _ | ⟨y, _ | ⟨z, r⟩⟩
    ·exact .mk (.var (tx1.1 c3) hm0.1 hm0.2) noK
    ·simp only [isL, Bool.and_eq_true] at hl
     have hy : y.kd = 15 := by have h9 := hl.1.1; unfold kfF at h9; simpa using h9
     exact .mk (.array (tx1.1 c3) hm0.1 hm0.2 hy) (ndis.none1 ((kid y (by simp)).1 hl.1.2))
    ·simp at h1; omega
   ·have hm0 : 0 ≤ m ∧ m ≤ 11 := by simpa [cntF] using c4
    have hne : l ≠ [] := by rintro rfl; simp [cntF] at c1
    obtain ⟨ps, b, rfl, hp, hb, hbf⟩ := (isL_proc l 0 0 (by omega) hne).1 hl; refine .mk (.proc (tx1.1 c3) hm0.1 hm0.2 (fun y hy => (hp y hy).1) hb) fun y hy => ?_
    rcases List.mem_append.1 hy with h | h
    ·exact (kid y hy).1 (hp y h).2
    ·rw [List.mem_singleton] at h; subst h; exact (kid y hy).1 hbf
   ·obtain rfl := len0 (l := l) (by simpa [cntF] using c2)
    have hm0 : 0 ≤ m ∧ m ≤ 1 := by simpa [cntF] using c4
    exact .mk (.param (tx1.1 c3) hm0.1 hm0.2) noK
   ·obtain rfl : m = 0 := by simp [cntF] at c4; omega
    obtain rfl := tx0.1 c3; have h1 := (isL_const (c := fun kd => decide (7 ≤ kd) && decide (kd ≤ 14)) (fun i p kd => by unfold kfF; simp) l 0 0).1 hl; exact .mk (.block fun y hy => by have := (h1 y hy).1; simpa [KdS] using this) fun y hy => (kid y hy).1 (h1 y hy).2
   ·obtain ⟨x, rfl⟩ := len1 (l := l) (by simp [cntF] at c1; omega) (by simp [cntF] at c2; omega)
    have hm0 : 0 ≤ m ∧ m ≤ 1 := by simpa [cntF] using c4
    simp only [isL, Bool.and_eq_true] at hl; have hx : KdE x.kd := by have h9 := hl.1.1; unfold kfF at h9; simpa [KdE] using h9
    exact .mk (.loc (tx1.1 c3) hm0.1 hm0.2 hx) (ndis.none1 ((kid x (by simp)).1 hl.1.2))
   ·obtain ⟨p, x, rfl⟩ := len2 (l := l) (by simp [cntF] at c1; omega) (by simp [cntF] at c2; omega)
    obtain rfl : m = 0 := by simp [cntF] at c4; omega
    obtain rfl := tx0.1 c3; simp only [isL, Bool.and_eq_true] at hl; have hp : KdP p.kd := by have h9 := hl.1.1; unfold kfF at h9; simpa [KdP] using h9
    have hx : KdE x.kd := by have h9 := hl.2.1.1; unfold kfF at h9; simpa [KdE] using h9
    exact .mk (.set hp hx) (ndis.none2 ((kid p (by simp)).1 hl.1.2) ((kid x (by simp)).1 hl.2.1.2))
   ·obtain ⟨x, rfl⟩ := len1 (l := l) (by simp [cntF] at c1; omega) (by simp [cntF] at c2; omega)
    obtain rfl : m = 0 := by simp [cntF] at c4; omega
    obtain rfl := tx0.1 c3; simp only [isL, Bool.and_eq_true] at hl; have hx : x.kd = 18 := by have h9 := hl.1.1; unfold kfF at h9; simpa using h9
    exact .mk (.do_ hx) (ndis.none1 ((kid x (by simp)).1 hl.1.2))
   ·obtain rfl : m = 0 := by simp [cntF] at c4; omega
    obtain rfl := tx0.1 c3; rcases len3 (l := l) (by simp [cntF] at c1; omega) (by simp [cntF] at c2; omega) with ⟨x, b, rfl⟩ | ⟨x, b, c, rfl⟩
    ·simp only [isL, Bool.and_eq_true] at hl
     have hx : KdE x.kd := by have h9 := hl.1.1; unfold kfF at h9; simpa [KdE] using h9
     have hb : b.kd = 6 := by have h9 := hl.2.1.1; unfold kfF at h9; simpa using h9
     exact .mk (.if2 hx hb) (ndis.none2 ((kid x (by simp)).1 hl.1.2) ((kid b (by simp)).1 hl.2.1.2))
    ·simp only [isL, Bool.and_eq_true] at hl
     have hx : KdE x.kd := by have h9 := hl.1.1; unfold kfF at h9; simpa [KdE] using h9
     have hb : b.kd = 6 := by have h9 := hl.2.1.1; unfold kfF at h9; simpa using h9
     have hc : c.kd = 6 := by have h9 := hl.2.2.1.1; unfold kfF at h9; simpa using h9
     exact .mk (.if3 hx hb hc) (ndis.none3 ((kid x (by simp)).1 hl.1.2) ((kid b (by simp)).1 hl.2.1.2) ((kid c (by simp)).1 hl.2.2.1.2))
   ·obtain rfl : m = 0 := by simp [cntF] at c4; omega
    obtain rfl := tx0.1 c3; obtain ⟨x, b, rfl⟩ := len2 (l := l) (by simp [cntF] at c1; omega) (by simp [cntF] at c2; omega); simp only [isL, Bool.and_eq_true] at hl; have hx : KdE x.kd := by have h9 := hl.1.1; unfold kfF at h9; simpa [KdE] using h9
    have hb : b.kd = 6 := by have h9 := hl.2.1.1; unfold kfF at h9; simpa using h9
    exact .mk (.while_ hx hb) (ndis.none2 ((kid x (by simp)).1 hl.1.2) ((kid b (by simp)).1 hl.2.1.2))
   ·obtain ⟨x, rfl⟩ := len1 (l := l) (by simp [cntF] at c1; omega) (by simp [cntF] at c2; omega)
    have hm0 : 0 ≤ m ∧ m ≤ 1 := by simpa [cntF] using c4
    obtain rfl := tx0.1 c3; simp only [isL, Bool.and_eq_true] at hl; have hx : KdE x.kd := by have h9 := hl.1.1; unfold kfF at h9; simpa [KdE] using h9
    exact .mk (.out hm0.1 hm0.2 hx) (ndis.none1 ((kid x (by simp)).1 hl.1.2))
   ·obtain ⟨x, rfl⟩ := len1 (l := l) (by simp [cntF] at c1; omega) (by simp [cntF] at c2; omega)
    have hm0 : 0 ≤ m ∧ m ≤ 1 := by simpa [cntF] using c4
    obtain rfl := tx0.1 c3; simp only [isL, Bool.and_eq_true] at hl; have hx : KdP x.kd := by have h9 := hl.1.1; unfold kfF at h9; simpa [KdP] using h9
    exact .mk (.inp hm0.1 hm0.2 hx) (ndis.none1 ((kid x (by simp)).1 hl.1.2))
   ·obtain ⟨x, rfl⟩ := len1 (l := l) (by simp [cntF] at c1; omega) (by simp [cntF] at c2; omega)
    obtain rfl : m = 0 := by simp [cntF] at c4; omega
    obtain rfl := tx0.1 c3; simp only [isL, Bool.and_eq_true] at hl; have hx : KdE x.kd := by have h9 := hl.1.1; unfold kfF at h9; simpa [KdE] using h9
    exact .mk (.ret hx) (ndis.none1 ((kid x (by simp)).1 hl.1.2))
   ·obtain rfl := len0 (l := l) (by simpa [cntF] using c2)
    have hm0 : 0 ≤ m := by have h9 : 0 ≤ m ∧ m ≤ 9223372036854775807 := by { simpa [cntF] using c4 }; exact h9.1
    obtain rfl := tx0.1 c3; exact .mk (.num hm0 hm) noK
   ·obtain rfl := len0 (l := l) (by simpa [cntF] using c2)
    obtain rfl : m = 0 := by simp [cntF] at c4; omega
    exact .mk (.name ((texts_whole t).1 c3)) noK
   ·obtain ⟨x, rfl⟩ := len1 (l := l) (by simp [cntF] at c1; omega) (by simp [cntF] at c2; omega)
    obtain rfl : m = 0 := by simp [cntF] at c4; omega
    simp only [isL, Bool.and_eq_true] at hl; have hx : KdE x.kd := by have h9 := hl.1.1; unfold kfF at h9; simpa [KdE] using h9
    exact .mk (.item ((texts_whole t).1 c3) hx) (ndis.none1 ((kid x (by simp)).1 hl.1.2))
   ·obtain rfl : m = 0 := by simp [cntF] at c4; omega
    have h1 := (isL_const (c := fun kd => decide (15 ≤ kd) && decide (kd ≤ 21)) (fun i p kd => by unfold kfF; simp) l 0 0).1 hl; exact .mk (.call ((texts_whole t).1 c3) fun y hy => by have := (h1 y hy).1; simpa [KdE] using this) fun y hy => (kid y hy).1 (h1 y hy).2
   ·obtain ⟨x, y, rfl⟩ := len2 (l := l) (by simp [cntF] at c1; omega) (by simp [cntF] at c2; omega)
    have hs := sg_some.1 (by rw [if_pos rfl] at c4; exact c4); obtain rfl := tx0.1 c3; simp only [isL, Bool.and_eq_true] at hl; have hx : KdE x.kd := by have h9 := hl.1.1; unfold kfF at h9; simpa [KdE] using h9
    have hy : KdE y.kd := by have h9 := hl.2.1.1; unfold kfF at h9; simpa [KdE] using h9
    exact .mk (.op hs.1 hs.2 hx hy) (ndis.none2 ((kid x (by simp)).1 hl.1.2) ((kid y (by simp)).1 hl.2.1.2))
   ·obtain ⟨x, rfl⟩ := len1 (l := l) (by simp [cntF] at c1; omega) (by simp [cntF] at c2; omega)
    obtain rfl : m = 0 := by simp [cntF] at c4; omega
    obtain rfl := tx0.1 c3; simp only [isL, Bool.and_eq_true] at hl; have hx : KdE x.kd := by have h9 := hl.1.1; unfold kfF at h9; simpa [KdE] using h9
    exact .mk (.neg hx) (ndis.none1 ((kid x (by simp)).1 hl.1.2))
   ·obtain ⟨x, rfl⟩ := len1 (l := l) (by simp [cntF] at c1; omega) (by simp [cntF] at c2; omega)
    obtain rfl : m = 0 := by simp [cntF] at c4; omega
    obtain rfl := tx0.1 c3; simp only [isL, Bool.and_eq_true] at hl; have hx : KdE x.kd := by have h9 := hl.1.1; unfold kfF at h9; simpa [KdE] using h9
    exact .mk (.not_ hx) (ndis.none1 ((kid x (by simp)).1 hl.1.2))
  ·exfalso
   have e : cntF k = (0, 0, 0, 0, false) := by
    unfold cntF; rw [if_neg (show ¬ k = 1 by omega), if_neg (show ¬ k = 2 by omega), if_neg (show ¬ k = 3 by omega), if_neg (show ¬ k = 4 by omega), if_neg (show ¬ k = 5 by omega), if_neg (show ¬ k = 6 by omega), if_neg (show ¬ k = 7 by omega), if_neg (show ¬ k = 8 by omega), if_neg (show ¬ k = 11 by omega), if_neg (show ¬ k = 9 by omega), if_neg (show ¬ k = 14 by omega), if_neg (show ¬ k = 20 by omega), if_neg (show ¬ k = 21 by omega), if_neg (show ¬ k = 10 by omega), if_neg (show ¬ k = 12 by omega), if_neg (show ¬ k = 13 by omega), if_neg (show ¬ k = 15 by omega), if_neg (show ¬ k = 16 by omega), if_neg (show ¬ k = 17 by omega), if_neg (show ¬ k = 18 by omega), if_neg (show ¬ k = 19 by omega)]
   unfold isH at h; rw [e] at h; simp at h
 ·intro hX
  have hkid := hX.kids; have hf := hX.form; have fl : ∀ y ∈ l, isF y = true := fun y hy => (kid y hy).2 (hkid y hy)
  unfold isH; cases hf with
  | @module _ a b ht ha hb =>
   refine ⟨?_, (isL_mod _ 0 0).2 ⟨fl, a, b, rfl, fun h => absurd (.inl rfl) h, ha, hb⟩⟩
   simp [cntF, tx1.2 ht]
   omega
  | imp ht => exact ⟨by simp [cntF, tx1.2 ht], by simp [isL]⟩
  | var ht h0 h1 => exact ⟨by simp [cntF, tx1.2 ht, h0, h1], by simp [isL]⟩
  | @array _ _ y ht h0 h1 hy =>
   have := fl y (by simp); exact ⟨by simp [cntF, tx1.2 ht, h0, h1], by simp [isL, kfF, hy, this]⟩
  | @proc _ _ ps b ht h0 h1 hp hb =>
   refine ⟨by simp [cntF, tx1.2 ht, h0, h1]; omega, (isL_proc _ 0 0 (by omega) (by simp)).2 ⟨ps, b, rfl, fun y hy => ⟨hp y hy, fl y (by simp [hy])⟩, hb, fl b (by simp)⟩⟩
  | param ht h0 h1 => exact ⟨by simp [cntF, tx1.2 ht, h0, h1], by simp [isL]⟩
  | block hl =>
   refine ⟨by simp [cntF, tx0.2 rfl], (isL_const (c := fun kd => decide (7 ≤ kd) && decide (kd ≤ 14)) (fun i p kd => by unfold kfF; simp) l 0 0).2 fun y hy => ⟨?_, fl y hy⟩⟩
   have := hl y hy; simpa [KdS] using this
  | @loc _ _ x ht h0 h1 hx =>
   have := fl x (by simp); unfold KdE at hx; exact ⟨by simp [cntF, tx1.2 ht, h0, h1], by simp [isL, kfF, hx, this]⟩
  | @set p x hp hx =>
   have h1 := fl p (by simp); have h2 := fl x (by simp); unfold KdE at hx; unfold KdP at hp; exact ⟨by simp [cntF, tx0.2 rfl], by simp [isL, kfF, hx, hp, h1, h2]⟩
  | @do_ c hc =>
   have := fl c (by simp); exact ⟨by simp [cntF, tx0.2 rfl], by simp [isL, kfF, hc, this]⟩
  | @if2 x b hx hb =>
   have h1 := fl x (by simp); have h2 := fl b (by simp); unfold KdE at hx; exact ⟨by simp [cntF, tx0.2 rfl], by simp [isL, kfF, hx, hb, h1, h2]⟩
  | @if3 x b c hx hb hc =>
   have h1 := fl x (by simp); have h2 := fl b (by simp); have h3 := fl c (by simp); unfold KdE at hx; exact ⟨by simp [cntF, tx0.2 rfl], by simp [isL, kfF, hx, hb, hc, h1, h2, h3]⟩
  | @while_ x b hx hb =>
   have h1 := fl x (by simp); have h2 := fl b (by simp); unfold KdE at hx; exact ⟨by simp [cntF, tx0.2 rfl], by simp [isL, kfF, hx, hb, h1, h2]⟩
  | @out _ x h0 h1 hx =>
   have := fl x (by simp); unfold KdE at hx; exact ⟨by simp [cntF, tx0.2 rfl, h0, h1], by simp [isL, kfF, hx, this]⟩
  | @inp _ x h0 h1 hx =>
   have := fl x (by simp); unfold KdP at hx; exact ⟨by simp [cntF, tx0.2 rfl, h0, h1], by simp [isL, kfF, hx, this]⟩
  | @ret x hx =>
   have := fl x (by simp); unfold KdE at hx; exact ⟨by simp [cntF, tx0.2 rfl], by simp [isL, kfF, hx, this]⟩
  | num h0 h1 => exact ⟨by simp [cntF, tx0.2 rfl, h0]; omega, by simp [isL]⟩
  | name ht => exact ⟨by simp [cntF, (texts_whole t).2 ht], by simp [isL]⟩
  | @item _ x ht hx =>
   have := fl x (by simp); unfold KdE at hx; exact ⟨by simp [cntF, (texts_whole t).2 ht], by simp [isL, kfF, hx, this]⟩
  | call ht hl =>
   refine ⟨by simp [cntF, (texts_whole t).2 ht], (isL_const (c := fun kd => decide (15 ≤ kd) && decide (kd ≤ 21)) (fun i p kd => by unfold kfF; simp) l 0 0).2 fun y hy => ⟨?_, fl y hy⟩⟩
   have := hl y hy; simpa [KdE] using this
  | @op _ x y h0 h1 hx hy =>
   have h2 := fl x (by simp); have h3 := fl y (by simp); have hs := sg_some.2 ⟨h0, h1⟩; unfold KdE at hx hy; exact ⟨by rw [if_pos rfl, hs]; simp [cntF, tx0.2 rfl], by simp [isL, kfF, hx, hy, h2, h3]⟩
  | @neg x hx =>
   have := fl x (by simp); unfold KdE at hx; exact ⟨by simp [cntF, tx0.2 rfl], by simp [isL, kfF, hx, this]⟩
  | @not_ x hx =>
   have := fl x (by simp); unfold KdE at hx; exact ⟨by simp [cntF, tx0.2 rfl], by simp [isL, kfF, hx, this]⟩
end rpr
end Go.Proofs.YtpcihajmcejliabGreatDoor
namespace Go.Proofs.YtpcihajmcejliabGreatDoor
open Go.RowKit
theorem results_11 {P : Program} {fn : Func} {p q : Tmp} {ty ty2 : TypeId} (h : fn.results = #[.cell p ty, .cell q ty2]) (tmps : Array Value) (w : World) {g g2 : Nat} {T T2 : TypeId} {d d2 : TypeDesc} {v v2 : Value}
  (hp : tmps.getD p undef = .pointer (some ⟨g, 0, none⟩)) (hg : Blk w g #[v] T) (hu : P.underlying ty = some d) (hd : (match d with | .struct _ | .array _ _ => true | _ => false) = false)
  (hq : tmps.getD q undef = .pointer (some ⟨g2, 0, none⟩)) (hg2 : Blk w g2 #[v2] T2) (hu2 : P.underlying ty2 = some d2) (hd2 : (match d2 with | .struct _ | .array _ _ => true | _ => false) = false) :
  (results fn tmps).run P w = .ok (.tuple #[v, v2]) w := by
 have hp' : tmps[p]?.getD undef = .pointer (some ⟨g, 0, none⟩) := by simpa using hp
 have hq' : tmps[q]?.getD undef = .pointer (some ⟨g2, 0, none⟩) := by simpa using hq
 have hl : (loadVar ty ⟨g, 0, none⟩).run P w = .ok v w := by
  have hc := hg.cell 0; simp only [List.getElem?_toArray, List.getElem?_cons_zero] at hc
  have hagg : (isAgg ty).run P w = .ok false w := by
   unfold isAgg; rw [Sem.run_bind, run_underlying hu w]; cases d <;> simp_all
  simp [loadVar, Sem.run_bind, hagg, hc]
 have hl2 : (loadVar ty2 ⟨g2, 0, none⟩).run P w = .ok v2 w := by
  have hc := hg2.cell 0; simp only [List.getElem?_toArray, List.getElem?_cons_zero] at hc
  have hagg : (isAgg ty2).run P w = .ok false w := by
   unfold isAgg; rw [Sem.run_bind, run_underlying hu2 w]; cases d2 <;> simp_all
  simp [loadVar, Sem.run_bind, hagg, hc]
 simp [results, h, hp', hq', asAddr, hl, hl2]
namespace prt
open synw
theorem then_yes2 {a b : PO} (h : (a.then b).1 = true) : a.1 = true ∧ b.1 = true ∧ (a.then b).2 = a.2 ++ b.2 := by
 unfold PO.then at h ⊢
 cases ha : a.1 with
 | false => rw [ha] at h; simp [ha] at h
 | true => rw [ha] at h; exact ⟨rfl, by simpa using h, by simp⟩
theorem mod_some (x : Nd) {pw : List ByteArray} (h : modP x = (true, pw)) : 0 < pw.length := by
 obtain ⟨k, t, m, l⟩ := x; unfold modP at h; have h1 := then_yes2 (congrArg Prod.fst h); have h2 := then_yes2 h1.2.1; have h3 := then_yes2 h2.2.1; have h4 := congrArg (fun p => p.2.length) h; simp only at h4; rw [h1.2.2, h2.2.2, h3.2.2] at h4; simp [sayP, mustP] at h4
 omega
theorem row_cells {u : World} {B : Nat} {row : Value} {xs : List ByteArray} (h : u.ownsRow B 9 1 row xs.length (xs.map fun s => .string s)) (hx : 0 < xs.length) : ∃ g c, row = .slice (some ⟨g, 0, none⟩) xs.length c ∧ xs.length ≤ c ∧ g < u.heap.size ∧ ∀ (j : Nat) x, xs[j]? = some x → u.cell? ⟨g, 0 + j, none⟩ = some (.string x) := by
 have h9 := h; obtain ⟨h1, h2⟩ := h; rcases h2 with ⟨rfl, h0⟩ | ⟨g, cap, cur, rfl, hb, hh, hc, -⟩
 ·omega
 ·refine ⟨g, cap, rfl, hc, (Array.getElem?_eq_some_iff.1 hh).1, fun j x hj => ?_⟩
  have hjl : j < xs.length := (List.getElem?_eq_some_iff.1 hj).1; rw [Nat.zero_add, h9.cellAt j (by omega), List.getElem?_map, hj]; rfl
set_option maxRecDepth 100000 in
set_option maxHeartbeats 8000000 in
theorem print_any (x : Nd) (v : Value) (w : World) (hnd : NgAt w x v) (hv : ErrVar w) (hmv : MaxVar w) (htab : Lib.TabIs Tryz.prog w "internal/strconv.uint64pow10" .u64 Lib.pow10Tab) :
  Calls Tryz.prog 27 #[v] w fun e w' => e = .returned (.tuple #[.string (printR x).1, .int .i64 (printR x).2]) ∧ Ext w w' := by
 obtain ⟨k, t, m, a, N, cc, rfl⟩ := ng_form hnd; obtain ⟨T, hT⟩ : ∃ T, printR x = T := ⟨_, rfl⟩; rw [hT]; have HT := Z_ hT; obtain ⟨B, hB⟩ : ∃ B, w.heap.size = B := ⟨_, rfl⟩; obtain ⟨w0, hw0⟩ : ∃ w0, w.alloc (.cells #[.int .i64 k, .string t, .int .i64 m, .slice a N cc] 66) = w0 := ⟨_, rfl⟩; have hb0 := Blk.made w #[.int .i64 k, .string t, .int .i64 m, .slice a N cc] 66; have hx0 := (Chg.refl (fun _ => False) w).alloc (.cells #[.int .i64 k, .string t, .int .i64 m, .slice a N cc] 66); have hs0 : w0.heap.size = B + 1 := by rw [← hw0, ← hB]; exact Array.size_push ..
 rw [hw0] at hb0 hx0; rw [hB] at hb0; have hR0 := Blk.made w0 #[.string ⟨#[]⟩] 9; obtain ⟨w1, hw1⟩ : ∃ w1, w0.alloc (.cells #[.string ⟨#[]⟩] 9) = w1 := ⟨_, rfl⟩; have hs1 : w1.heap.size = B + 2 := by rw [← hw1]; have h9 : (w0.alloc (.cells #[.string ⟨#[]⟩] 9)).heap.size = w0.heap.size + 1 := Array.size_push ..; omega
 have hb1 := hb0.alloc (.cells #[.string ⟨#[]⟩] 9); have hx1 := hx0.alloc (.cells #[.string ⟨#[]⟩] 9); rw [hw1] at hR0 hb1 hx1; rw [hs0] at hR0; have hF0 := Blk.made w1 #[.int .i64 0] 26; have hb2 := hb1.alloc (.cells #[.int .i64 0] 26); have hR2 := hR0.alloc (.cells #[.int .i64 0] 26); have hx2 := hx1.alloc (.cells #[.int .i64 0] 26); obtain ⟨w2, hw2⟩ : ∃ w2, w1.alloc (.cells #[.int .i64 0] 26) = w2 := ⟨_, rfl⟩; have hs2 : w2.heap.size = B + 3 := by rw [← hw2]; have h9 : (w1.alloc (.cells #[.int .i64 0] 26)).heap.size = w1.heap.size + 1 := Array.size_push ..; omega
 rw [hw2] at hF0 hb2 hR2 hx2; rw [hs1] at hF0; have HB := Z_ hb2; have HR := Z_ hR2; have HF := Z_ hF0; have HX := Z_ hx2; have HV := Z_ hv; have HMV := Z_ hmv; have HTAB := Z_ htab; have HND := Z_ hnd; clear hT hb0 hx0 hR0 hb1 hx1 hF0 hb2 hR2 hx2 hv hmv htab hnd; go_enter_defers Tryz.func27, Tryz.ntmps27
 go_upto_region 1 with (fail)
 try simp only [hw0, hs0, hw1, hs1, hB, hw2]
 clear hw0 hw1 hw2; have hbc := HB.out.cell; obtain ⟨w3, hw3⟩ : ∃ w3, w2.alloc (.cells #[.int .i64 0] 3) = w3 := ⟨_, rfl⟩; have hM := Blk.made w2 #[.int .i64 0] 3; have hB3 := HB.out.alloc (.cells #[.int .i64 0] 3); have hR3 := HR.out.alloc (.cells #[.int .i64 0] 3); have hF3 := HF.out.alloc (.cells #[.int .i64 0] 3); have hX3 := HX.out.alloc (.cells #[.int .i64 0] 3); rw [hw3] at hM hB3 hR3 hF3 hX3; rw [hs2] at hM; have HM := Z_ hM; have HB3 := Z_ hB3; have HR3 := Z_ hR3; have HF3 := Z_ hF3; have HX3 := Z_ hX3; clear hM hB3 hR3 hF3 hX3 hbc HB HR HF HX; have m1 := HM.out.cell; have m2 := HM.out.frozen; have m3 := HM.out.lt; go_upto_region 2 with (fail)
 try rw [hw3]
 have hM4 := HM.out.set 0 (.int .i64 0); have hB4 := HB3.out.setOther (p := ⟨B + 3, 0, none⟩) (by show B ≠ B + 3; omega) (.int .i64 0); have hR4 := HR3.out.setOther (p := ⟨B + 3, 0, none⟩) (by show B + 1 ≠ B + 3; omega) (.int .i64 0); have hF4 := HF3.out.setOther (p := ⟨B + 3, 0, none⟩) (by show B + 2 ≠ B + 3; omega) (.int .i64 0); have hX4 := HX3.out.setNew (p := ⟨B + 3, 0, none⟩) (by show w.heap.size ≤ B + 3; omega) (.int .i64 0); have HM := Z_ hM4; have HB := Z_ hB4; have HR := Z_ hR4; have HF := Z_ hF4; have HX := Z_ hX4; clear hM4 hB4 hR4 hF4 hX4 m1 m2 m3 HB3 HR3 HF3 HX3 hw3; generalize w3.setCell ⟨B + 3, 0, none⟩ (.int .i64 0) = w4 at *; have hbc := HB.out.cell
 have hW := weighg_any 16 x _ w4 (B + 3) 0 1 (fun i => decide (i = B + 3)) (ngAt_keeps (by
  refine keeps_hide (M := fun _ => false) HX.out.size fun i hi _ => ⟨by have : i ≠ B + 3 := (by omega); simpa using this, HX.out.block i hi id⟩) x _ (ngAt_keeps ⟨by rw [hide_size]; exact Nat.le_refl _, fun p u hp => by rw [hide_cell (fun _ => false) w p rfl]; exact hp⟩ x _ HND.out)) (by simp) HM.out (by decide) (by decide) (by decide)
 have HW := Z_ hW; clear hW; go_wp2_with fail
 refine HW.out.mono ?_
 rintro e w5 ⟨rfl, hC, hM5⟩; have HR5 := Z_ (HR.out.chg hC (by omega)); have HF5 := Z_ (HF.out.chg hC (by omega)); have HB5 := Z_ (HB.out.chg hC (by omega)); have HX5 := Z_ (HX.out.trans hC (fun i hi e => by omega)); clear hC hM5 HW HM HB HR HF HX hbc; cases hwe : (weighF 16 x 0).1 with
 | false =>
  have hq1 := HR5.out.cell; have hq2 := HR5.out.frozen; have hq3 := HR5.out.lt; have hs1 := HF5.out.cell; have hs2 := HF5.out.frozen; have hs3 := HF5.out.lt; go_wp2_with fail
  have hT : ((⟨#[]⟩ : ByteArray), (1 : Int)) = T := by rw [← HT.out]; unfold printR; rw [if_pos hwe]; rfl
  subst hT; have hF9 := (HF5.out.setOther (p := ⟨B + 1, 0, none⟩) (by show B + 2 ≠ B + 1; omega) (.string ⟨#[]⟩)).set 0 (.int .i64 1); have hR9 := (HR5.out.set 0 (.string ⟨#[]⟩)).setOther (p := ⟨B + 2, 0, none⟩) (by show B + 1 ≠ B + 2; omega) (.int .i64 1); have hX9 := (HX5.out.setNew (p := ⟨B + 1, 0, none⟩) (by show w.heap.size ≤ B + 1; omega) (.string ⟨#[]⟩)).setNew (p := ⟨B + 2, 0, none⟩) (by show w.heap.size ≤ B + 2; omega) (.int .i64 1); exact ⟨_, results_11 rfl _ _ rfl hR9 Tryz.underlying9 rfl rfl hF9 Tryz.underlying26 rfl, rfl, hX9⟩
 | true =>
  have hmf : ∀ (fn : Fn) (first cap : Array Value) (w : World), (Instr.makeFunc fn first cap).run Tryz.prog w = .ok (.func fn first cap) w := fun _ _ _ _ => rfl
  obtain ⟨P, hP⟩ : ∃ P, w5.heap.size = P := ⟨_, rfl⟩; obtain ⟨w6, hw6⟩ : ∃ w6, w5.alloc (.cells #[.slice none 0 0] 167) = w6 := ⟨_, rfl⟩; have hS := Blk.made w5 #[.slice none 0 0] 167; have hB6 := HB5.out.alloc (.cells #[.slice none 0 0] 167); have hR6 := HR5.out.alloc (.cells #[.slice none 0 0] 167); have hF6 := HF5.out.alloc (.cells #[.slice none 0 0] 167); have hX6 := HX5.out.alloc (.cells #[.slice none 0 0] 167); rw [hw6] at hS hB6 hR6 hF6 hX6; rw [hP] at hS; have hPB : B + 3 ≤ P := by have := HF5.out.lt; omega
  have HB6 := Z_ hB6; have HR6 := Z_ hR6; have HF6 := Z_ hF6; have HX6 := Z_ hX6; have hwl := (weigh_law 16 x 0 (by decide)).1.1 hwe; have hml := mod_len x; have hws := short_mod x ⟨_, HND.out⟩; have HPW := Z_ (show PW w w6 P (.slice none 0 0) [] from ⟨hX6, hS, ⟨rfl, .inl ⟨rfl, rfl⟩⟩, by omega⟩); have HMO := Z_ (show MoC w P x from by obtain ⟨k9, t9, m9, l9⟩ := x; exact mod_any HV.out HMV.out HTAB.out k9 t9 m9 l9); have HCA := Z_ (HMO.out _ _ _ _ HPW.out HND.out (by simp; omega)); obtain ⟨p, hp⟩ : ∃ p, modP x = p := ⟨_, rfl⟩; rw [hp] at HCA hml hws; have HPM := Z_ hp; have HWS := Z_ hws; clear hS hB6 hR6 hF6 hX6 hp HMO hws; have hbc := HB6.out.cell; go_upto_region 6 with (fail)
  try rw [hP]
  try rw [hw6]
  clear hw6 hP; go_wp2_with fail
  refine HCA.out.mono ?_
  rintro e w7 ⟨⟨row7, hF7⟩, he⟩; have hC7 := hF7.chg; have HR7 := Z_ (HR6.out.chg hC7 (fun e => by rcases e with e | e; omega; cases e)); have HF7 := Z_ (HF6.out.chg hC7 (fun e => by rcases e with e | e; omega; cases e)); have HX7 := Z_ hF7.pw.ext; have HPF := Z_ hF7; clear hC7 hF7 hbc HCA HB6 HR6 HF6 HX6; obtain ⟨pb, pw⟩ := p; cases pb with
  | false =>
   obtain rfl : e = _ := he; simp only [Bool.false_eq_true, if_false]; go_wp2_with fail
   refine leaves_cons (f := 93) (args := #[.pointer (some ⟨B + 1, 0, none⟩), .pointer (some ⟨B + 2, 0, none⟩)]) (by simp) (by simp [go_sem]) ?_
   refine (catch_print (B + 1) (B + 2) _ _ _ HR7.out HF7.out (by omega)).mono ?_
   rintro e u' w'' ⟨rfl, rfl, hRz, hFz, hCz⟩; have hT : (noText, (2 : Int)) = T := by rw [← HT.out]; unfold printR; rw [hwe, HPM.out]; rfl
   subst hT; exact ⟨_, results_11 rfl _ _ rfl hRz Tryz.underlying9 rfl rfl hFz Tryz.underlying26 rfl, rfl, HX7.out.trans hCz (fun i hi e => by omega)⟩
  | true =>
   obtain rfl : e = _ := he; simp only [if_true]; have hpos := mod_some x HPM.out; replace hml : pw.length ≤ 12 * szF x := hml; have hrow := HPF.out.pw.row; simp only [List.nil_append] at hrow; obtain ⟨g, c, rfl, hgc, hgl, hgx⟩ := row_cells hrow hpos; have hjl := join_le pw HWS.out; have hj := Tryz.strings_Join g 0 c pw ⟨#[32]⟩ w7 hgx hgl (by omega) hgc (by have h9 : (Lib.join (pw.map (·.data.toList)) (⟨#[32]⟩ : ByteArray).data.toList).length ≤ 25 * pw.length := hjl; omega); obtain ⟨J, hJ⟩ : ∃ J, (Lib.join (pw.map fun s => s.data.toList) [32]) = J := ⟨_, rfl⟩; have HJ := Z_ (show Calls Tryz.prog 95 #[.slice (some ⟨g, 0, none⟩) pw.length c, .string ⟨#[32]⟩] w7 fun e w' => e = .returned (.string ⟨J.toArray⟩) ∧ Below w7.heap.size w7 w' from by rw [← hJ]; exact hj); have hsc := HPF.out.pw.s.cell; have HJL := Z_ (show J.length ≤ 25 * pw.length from by rw [← hJ]; exact hjl)
   have HJE := Z_ hJ; obtain ⟨bs, hbs⟩ : ∃ bs : ByteArray, (⟨J.toArray⟩ : ByteArray) = bs := ⟨_, rfl⟩; have hbz : bs.size = J.length := by rw [← hbs]; exact List.size_toArray
   rw [hbs] at HJ; have HT2 := Z_ (show (if 3000 < J.length then ((noText, 1) : ByteArray × Int) else (bs, 0)) = T by rw [← HT.out, ← hbs]; unfold printR; rw [hwe, HPM.out, HJE.out]; rfl); clear hj hjl hgx hrow hJ hbs; go_wp2_with fail
   refine HJ.out.mono ?_
   rintro e w8 ⟨rfl, hbl⟩; have hE8 : Ext w7 w8 := Below.toExt hbl; have hR8 := HR7.out.ext hE8; have hF8 := HF7.out.ext hE8; have hX8 := HX7.out.ext hE8; have hq1 := hR8.cell; have hq2 := hR8.frozen; have hq3 := hR8.lt; have hR9 := hR8.set 0 (.string bs); have hF9 := hF8.setOther (p := ⟨B + 1, 0, none⟩) (by show B + 2 ≠ B + 1; omega) (.string bs); have hX9 := hX8.setNew (p := ⟨B + 1, 0, none⟩) (by show w.heap.size ≤ B + 1; omega) (.string bs); have HR9 := Z_ hR9; have HF9 := Z_ hF9; have HX9 := Z_ hX9; clear hR8 hF8 hX8 hR9 hF9 hX9 hbl hE8 HJ; by_cases hbig : 3000 < J.length
   ·have hT := HT2.out
    rw [if_pos hbig] at hT; subst hT; have hbi : (3000 : Int) < (bs.size : Int) := by omega
    have hbd : decide ((3000 : Int) < (bs.size : Int)) = true := by simpa using hbi
    go_upto_region 8 with (fail)
    clear hq1 hq2 hq3; generalize w8.setCell ⟨B + 1, 0, none⟩ (.string bs) = w9 at *; have hq1 := HR9.out.cell; have hq2 := HR9.out.frozen; have hq3 := HR9.out.lt; have hs1 := HF9.out.cell; have hs2 := HF9.out.frozen; have hs3 := HF9.out.lt; go_wp2_with fail
    refine leaves_cons (f := 93) (args := #[.pointer (some ⟨B + 1, 0, none⟩), .pointer (some ⟨B + 2, 0, none⟩)]) (by simp) (by simp [go_sem]) ?_
    refine (idle_print (B + 1) (B + 2) _).mono ?_
    rintro e u' w'' ⟨rfl, rfl, rfl⟩; have hFz := (HF9.out.setOther (p := ⟨B + 1, 0, none⟩) (by show B + 2 ≠ B + 1; omega) (.string ⟨#[]⟩)).set 0 (.int .i64 1); have hRz := (HR9.out.set 0 (.string ⟨#[]⟩)).setOther (p := ⟨B + 2, 0, none⟩) (by show B + 1 ≠ B + 2; omega) (.int .i64 1); have hXz := (HX9.out.setNew (p := ⟨B + 1, 0, none⟩) (by show w.heap.size ≤ B + 1; omega) (.string ⟨#[]⟩)).setNew (p := ⟨B + 2, 0, none⟩) (by show w.heap.size ≤ B + 2; omega) (.int .i64 1); exact ⟨_, results_11 rfl _ _ rfl hRz Tryz.underlying9 rfl rfl hFz Tryz.underlying26 rfl, rfl, hXz⟩
   ·have hT := HT2.out
    rw [if_neg hbig] at hT; subst hT; have hbi : ¬ (3000 : Int) < (bs.size : Int) := by omega
    have hbd : decide ((3000 : Int) < (bs.size : Int)) = false := by simpa using hbi
    go_upto_region 8 with (fail)
    clear hq1 hq2 hq3; generalize w8.setCell ⟨B + 1, 0, none⟩ (.string bs) = w9 at *; have hq1 := HR9.out.cell; have hq2 := HR9.out.frozen; have hq3 := HR9.out.lt; have hs1 := HF9.out.cell; have hs2 := HF9.out.frozen; have hs3 := HF9.out.lt; go_wp2_with fail
    refine leaves_cons (f := 93) (args := #[.pointer (some ⟨B + 1, 0, none⟩), .pointer (some ⟨B + 2, 0, none⟩)]) (by simp) (by simp [go_sem]) ?_
    refine (idle_print (B + 1) (B + 2) _).mono ?_
    rintro e u' w'' ⟨rfl, rfl, rfl⟩; have hFz := (HF9.out.setOther (p := ⟨B + 1, 0, none⟩) (by show B + 2 ≠ B + 1; omega) (.string bs)).set 0 (.int .i64 0); have hRz := (HR9.out.set 0 (.string bs)).setOther (p := ⟨B + 2, 0, none⟩) (by show B + 1 ≠ B + 2; omega) (.int .i64 0); have hXz := (HX9.out.setNew (p := ⟨B + 1, 0, none⟩) (by show w.heap.size ≤ B + 1; omega) (.string bs)).setNew (p := ⟨B + 2, 0, none⟩) (by show w.heap.size ≤ B + 2; omega) (.int .i64 0); exact ⟨_, results_11 rfl _ _ rfl hRz Tryz.underlying9 rfl rfl hFz Tryz.underlying26 rfl, rfl, hXz⟩
end prt
end Go.Proofs.YtpcihajmcejliabGreatDoor
namespace Go.Proofs.YtpcihajmcejliabGreatDoor
open Go.RowKit
namespace syntaxPrints
open synw synr prt rpr
theorem hide_no (w : World) : Keeps w (hide (fun _ => false) w) := ⟨by rw [hide_size]; exact Nat.le_refl _, fun p u hp => by rw [hide_cell (fun _ => false) w p rfl]; exact hp⟩
set_option maxRecDepth 100000 in
set_option maxHeartbeats 4000000 in
theorem rprint_any (x : Nd) (v : Value) (w : World) (hnd : NgAt w x v) :
  Calls Tryz.prog 28 #[v] w fun e w' => e = .returned (.tuple #[.string (printR x).1, .int .i64 (printR x).2]) ∧ Ext w w' := by
 obtain ⟨k, t, m, a, N, cc, rfl⟩ := ng_form hnd; have hr := ng_rng x _ hnd
 have hkd : x.kd = k := by
  generalize x = z at hnd; obtain ⟨kz, tz, mz, lz⟩ := z; rw [ngAt_mk] at hnd; obtain ⟨az, cz, e, -⟩ := hnd; injection e with e
  injection e with e
  injection e with e1 e
  injection e1 with _ e1
  exact e1.symm
 have hX := (Chg.refl (fun _ => False) w).alloc (.cells #[.int .i64 k, .string t, .int .i64 m, .slice a N cc] 66); have HA := Z_ (Blk.made w #[.int .i64 k, .string t, .int .i64 m, .slice a N cc] 66); have HN := Z_ (fun (u : World) (hE : Ext w u) => ng_ext2 hnd hE); have HF := Z_ (fun (u : World) (hE : Ext w u) => fitsg_any (H := fun _ => false) (ngAt_keeps (hide_no u) _ _ (ng_ext2 hnd hE))); have HIS := Z_ (fun (u : World) (hE : Ext w u) => is_any x _ u (ng_ext2 hnd hE)); have HSH := Z_ (fun (hi : IsNd x) (hs : szF x ≤ 500) (u : World) (hE : Ext w u) => show_any x hi hs _ u (ng_ext2 hnd hE)); have HII := Z_ (isF_iff x hr); have HMF := Z_ (mod_form x hr); have HWL := Z_ (show (weighF 16 x 0).1 = true → szF x ≤ 500 from fun h => by have := (weigh_law 16 x 0 (by omega)).1.1 h; omega); have HX := Z_ hX; have HKD := Z_ hkd
 obtain ⟨P, hP⟩ : ∃ P, w.heap.size = P := ⟨_, rfl⟩; rw [hP] at HA; obtain ⟨R, hR⟩ : ∃ R, printR x = R := ⟨_, rfl⟩; rw [hR]; have HR := Z_ hR; clear hR hX hnd hr hkd; go_enter Tryz.func28, Tryz.ntmps28
 go_upto_region 1 with (fail)
 try rw [hP]
 generalize w.alloc (.cells #[.int .i64 k, .string t, .int .i64 m, .slice a N cc] 66) = w1 at *; clear hP; have q1 := HA.out.cell; have C1 := Z_ (HF.out w1 HX.out); obtain ⟨F, hF⟩ : ∃ F, (weighF 16 x 0).1 = F := ⟨_, rfl⟩; rw [hF] at C1 HWL; have HFF := Z_ hF; clear hF HF; go_wp2_with fail
 refine C1.out.mono ?_
 rintro e w2 ⟨rfl, hE2⟩; replace HX := Z_ (HX.out.ext hE2); replace HA := Z_ (HA.out.ext hE2); clear q1 hE2 C1; have q1 := HA.out.cell; cases F with
 | false =>
  have hT : (noText, (1 : Int)) = R := by rw [← HR.out]; unfold printR; rw [if_pos HFF.out]
  subst hT; go_wp2_with fail
  go_ret2
  exact ⟨rfl, HX.out⟩
 | true =>
  have hsz := HWL.out rfl; have hw0 : ¬ (weighF 16 x 0).1 = false := by rw [HFF.out]; decide
  by_cases h1 : k = 1
  ·subst h1
   have C2 := Z_ (HIS.out w2 HX.out); obtain ⟨I, hI⟩ : ∃ I, isF x = I := ⟨_, rfl⟩; rw [hI] at C2 HII; clear hI HIS; go_wp2_with fail
   refine C2.out.mono ?_
   rintro e w3 ⟨rfl, hE3⟩; replace HX := Z_ (HX.out.ext hE3); replace HA := Z_ (HA.out.ext hE3); clear q1 hE3 C2; have q1 := HA.out.cell; cases I with
   | false =>
    have hm : (modP x).1 = false := by
     cases h : (modP x).1 with
     | false => rfl
     | true => have := HII.out.2 (HMF.out.1 h).1; cases this
    have hT : (noText, (2 : Int)) = R := by rw [← HR.out]; unfold printR; rw [if_neg hw0, if_pos hm]
    subst hT; clear hm hw0; go_wp2_with fail
    go_ret2
    exact ⟨rfl, HX.out⟩
   | true =>
    have hi := HII.out.1 rfl; have hm := HMF.out.2 ⟨hi, HKD.out⟩; have hm0 : ¬ (modP x).1 = false := by rw [hm]; decide
    have C3 := Z_ (HSH.out hi hsz w3 HX.out); rw [sw_mod HKD.out] at C3; have hRR := HR.out; unfold printR at hRR; rw [if_neg hw0, if_neg hm0, join_words] at hRR; have hjl : (jB (modP x).2).size = (wordsJ ((modP x).2.map fun s => s.data.toList)).length := List.size_toArray ..; have hjb : (⟨(wordsJ ((modP x).2.map fun s => s.data.toList)).toArray⟩ : ByteArray) = jB (modP x).2 := rfl; rw [hjb, ← hjl] at hRR; generalize jB (modP x).2 = J at *; have HRR := Z_ hRR; clear hRR hm hm0 hi hsz hw0 hjl hjb; go_wp2_with fail
    refine C3.out.mono ?_
    rintro e w4 ⟨rfl, hE4⟩; replace HX := Z_ (HX.out.ext hE4); clear q1 hE4 C3; by_cases hbig : 3000 < J.size
    ·have hT := HRR.out
     rw [if_pos hbig] at hT; subst hT; have hbi : decide ((3000 : Int) < (J.size : Int)) = true := by simp; omega
     go_wp2_with fail
     go_ret2
     exact ⟨rfl, HX.out⟩
    ·have hT := HRR.out
     rw [if_neg hbig] at hT; subst hT; have hbi : decide ((3000 : Int) < (J.size : Int)) = false := by simp; omega
     go_wp2_with fail
     go_ret2
     exact ⟨rfl, HX.out⟩
  ·have hk1 : (k == 1) = false := by simpa using h1
   have hk2 : (k != 1) = true := by simpa using h1
   have hm : (modP x).1 = false := by
    cases h : (modP x).1 with
    | false => rfl
    | true => exact absurd ((HKD.out).symm.trans (HMF.out.1 h).2) h1
   have hT : (noText, (2 : Int)) = R := by rw [← HR.out]; unfold printR; rw [if_neg hw0, if_pos hm]
   subst hT; clear hm hw0 h1; go_wp2_with fail
   go_ret2
   exact ⟨rfl, HX.out⟩
set_option maxRecDepth 100000 in
set_option maxHeartbeats 4000000 in
theorem walk (x : Nd) (v : Value) (w : World) (hnd : NgAt w x v) (hv : ErrVar w) (hmv : MaxVar w) (htab : Lib.TabIs Tryz.prog w "internal/strconv.uint64pow10" .u64 Lib.pow10Tab) :
  Calls Tryz.prog 7 #[v] w fun e w' => e = .returned (.bool true) ∧ Ext w w' := by
 have CP := Z_ (fun (u : World) (hE : Ext w u) => print_any x v u (ng_ext2 hnd hE) (hv.ext hE) (hmv.ext hE) (tab_ext htab hE)); have CR := Z_ (fun (u : World) (hE : Ext w u) => rprint_any x v u (ng_ext2 hnd hE)); obtain ⟨k, t, m, a, N, cc, rfl⟩ := ng_form hnd; have hX := (Chg.refl (fun _ => False) w).alloc (.cells #[.int .i64 k, .string t, .int .i64 m, .slice a N cc] 66); have HA := Z_ (Blk.made w #[.int .i64 k, .string t, .int .i64 m, .slice a N cc] 66); have HX := Z_ hX; obtain ⟨P, hP⟩ : ∃ P, w.heap.size = P := ⟨_, rfl⟩; rw [hP] at HA; generalize printR x = R at *; obtain ⟨s, c⟩ := R; clear hX hnd hv hmv htab; go_enter Tryz.func7, Tryz.ntmps7
 go_upto_region 1 with (fail)
 try rw [hP]
 generalize w.alloc (.cells #[.int .i64 k, .string t, .int .i64 m, .slice a N cc] 66) = w1 at *; clear hP; have q1 := HA.out.cell; go_wp2_with fail
 refine (CP.out w1 HX.out).mono ?_
 rintro e w2 ⟨rfl, hE2⟩; replace HX := Z_ (HX.out.ext hE2); replace HA := Z_ (HA.out.ext hE2); clear q1 hE2 CP; have q1 := HA.out.cell; go_wp2_with fail
 refine (CR.out w2 HX.out).mono ?_
 rintro e w3 ⟨rfl, hE3⟩; replace HX := Z_ (HX.out.ext hE3); clear q1 hE3 CR HA; have hs : (s.toList == s.toList) = true := by simp
 have hc : (c == c) = true := by simp
 go_wp2_with fail
 go_ret
 exact ⟨by first | rfl | simp, HX.out⟩
end syntaxPrints
end Go.Proofs.YtpcihajmcejliabGreatDoor
