/- The reference's reader: eat, must, name, label, whole. The reference's reader: a kid more; the structures its walks carry. The reference's reader: a number; and what a sign is. -/
import Derived.Deep.AppendLies
import Derived.Deep.DeepCutAuto
import Derived.Deep.CutBlock
import Derived.Test.YtpcihajmcejliabGreatDoorSynR
namespace Go.Proofs.YtpcihajmcejliabGreatDoor
open Go.RowKit
namespace synr
open synw
theorem eat_iff {l : List Tk} {b : Bool} {s : ByteArray} (hs : s ≠ ⟨#[]⟩) : decide ((if b = true then (⟨#[]⟩ : ByteArray) else textN l) = s) = (!b && isB l [s]) := by
 cases b with
 | true => simp; exact fun h => hs h.symm
 | false =>
  cases l with
  | nil => simp [textN, isB]; exact fun h => hs h.symm
  | cons t r =>
   by_cases hk : t.kind = 2
   ·simp [textN, isB, hk]; exact fun h => hs h.symm
   ·simp [textN, isB, hk]
set_option maxRecDepth 100000 in
set_option maxHeartbeats 4000000 in
theorem eat_any {W w : World} {S : Nat} {l : List Tk} {b : Bool} (h : RdrAt W w S l b) (s : ByteArray) (hs : s ≠ ⟨#[]⟩) :
  Calls Tryz.prog 90 #[.pointer (some ⟨S, 0, none⟩), .string s] w
   fun e w' => e = .returned (.bool (!b && isB l [s])) ∧ Chg (fun i => i = S) w w' ∧ RdrAt W w' S (if (!b && isB l [s]) = true then l.tail else l) b := by
 have HC := Z_ (text_any h)
 have hl : (!b && isB l [s]) = true → ∃ t r, l = t :: r := fun h => by
  simp only [Bool.and_eq_true] at h; exact isB_some h.2
 have he := eat_iff (l := l) (b := b) hs; have HP := Z_ (fun u (hE : Ext w u) => h.extend hE); generalize (if b = true then (⟨#[]⟩ : ByteArray) else textN l) = x at *; generalize (!b && isB l [s]) = R at *; have hst := str_eq (a := x) (b := s); rw [he] at hst; clear h he; cases R with
 | false =>
  clear hl; go_enter Tryz.func90, Tryz.ntmps90
  go_wp2_with fail
  refine HC.out.mono ?_
  rintro e w1 ⟨rfl, hE⟩; go_wp2_with fail
  go_ret
  exact ⟨rfl, ext_at hE S, by simpa using HP.out _ hE⟩
 | true =>
  obtain ⟨t, r, rfl⟩ := hl rfl; go_enter Tryz.func90, Tryz.ntmps90
  go_wp2_with fail
  refine HC.out.mono ?_
  rintro e w1 ⟨rfl, hE⟩; have hP := HP.out _ hE; obtain ⟨k, hk, hk2, hP2⟩ := rdr_step hP; obtain ⟨a', n', c', k', hB, -, -⟩ := rdr_blk hP; have hf := hB.frozen 1; have hSl := hB.lt; have hkw : IntKind.i64.wrap ((k : Int) + 1) = (k : Int) + 1 := wrap_small _ (by omega) (by omega); have HP2 := Z_ hP2; have HE := Z_ hE; clear hP2 hP hB hE; go_wp2_with fail
  go_ret
  exact ⟨rfl, chg_set (ext_at HE.out S) 1 _, by simpa using HP2.out⟩
set_option maxRecDepth 100000 in
set_option maxHeartbeats 4000000 in
theorem must_any {W w : World} {S : Nat} {l : List Tk} {b : Bool} (h : RdrAt W w S l b) (s : ByteArray) (hs : s ≠ ⟨#[]⟩) :
  Calls Tryz.prog 88 #[.pointer (some ⟨S, 0, none⟩), .string s] w (Rst VUnit W w S (stO b l (pNeed s l))) := by
 have HC := Z_ (eat_any h s hs); obtain ⟨T, hT⟩ : ∃ T, stO b l (pNeed s l) = T := ⟨_, rfl⟩; rw [hT]; unfold pNeed at hT; have H1 := Z_ (fun he => now_eat hT he); have H2 := Z_ (fun he => now_not hT he); clear h hT; generalize (!b && isB l [s]) = R at *; go_enter Tryz.func88, Tryz.ntmps88
 go_wp2_with fail
 refine HC.out.mono ?_
 rintro e w1 ⟨rfl, hC, hP⟩; cases R with
 | true =>
  have hP2 : RdrAt W w1 S l.tail b := by simpa using hP
  have HR := Z_ hP2; have HCC := Z_ hC; clear hP hP2 hC; go_wp2_with fail
  go_end0
  obtain ⟨rfl, h3, h4⟩ := H1.out (by trivial); exact Rst.mk HCC.out rfl HR.out h4
 | false =>
  have hP2 : RdrAt W w1 S l b := by simpa using hP
  obtain ⟨a', n', c', k', hB, -, -⟩ := rdr_blk hP2; have hc := hB.cell 2; have hf := hB.frozen 2; have hSl := hB.lt; simp at hc
  have HR := Z_ (rdr_fail hP2); have HCC := Z_ hC; clear hP hP2 hC hB; go_wp2_with fail
  go_end0
  refine Rst.mk (y := ()) (chg_set HCC.out 2 _) rfl HR.out ?_
  have := H2.out (by trivial); cases b with
  | true => exact this
  | false => exact this
theorem name_iff {l : List Tk} (h : ∀ t ∈ l.head?, TkOk t) : pName l = if nameB (textN l).data.toList = true then .got (textN l) l.tail else .bad l := by
 cases l with
 | nil => rfl
 | cons t r =>
  have ho := h t rfl; have hk := ho.kinds; simp only [pName, List.tail_cons]; by_cases h1 : t.kind = 1
  ·have hw := ho.word h1
   have e : textN (t :: r) = t.text := if_neg (by omega : ¬ t.kind = 2); rw [e]; simp only [nameB, hw, Bool.true_and, h1, true_and]; cases reservedL.contains t.text.data.toList <;> simp
  ·rw [if_neg (fun h => h1 h.1)]
   by_cases h2 : t.kind = 2
   ·have e : textN (t :: r) = ⟨#[]⟩ := if_pos h2
    rw [e, if_neg (by decide)]
   ·have hw := ho.sign (by omega)
    have e : textN (t :: r) = t.text := if_neg h2; rw [e, if_neg (by simp [nameB, hw])]
set_option maxRecDepth 100000 in
set_option maxHeartbeats 4000000 in
theorem name_any {W w : World} {S : Nat} {l : List Tk} {b : Bool} (h : RdrAt W w S l b) :
  Calls Tryz.prog 89 #[.pointer (some ⟨S, 0, none⟩)] w (Rst (fun s v _ => v = .string s ∧ s.size ≤ 3000) W w S (stO b l (pName l))) := by
 have HC := Z_ (text_any h)
 have hh : ∀ t ∈ l.head?, TkOk t := by
  cases l with
  | nil => intro t ht; cases ht
  | cons t r => intro t' ht; obtain rfl : t = t' := by simpa using ht
                exact rdr_ok h
 have hsz : (if b = true then (⟨#[]⟩ : ByteArray) else textN l).size ≤ 3000 := by
  cases b with
  | true => exact (by decide : (0 : Nat) ≤ 3000)
  | false =>
   cases l with
   | nil => exact (by decide : (0 : Nat) ≤ 3000)
   | cons t r =>
    simp only [textN, Bool.false_eq_true, ↓reduceIte]; split
    ·exact (by decide : (0 : Nat) ≤ 3000)
    ·exact (hh t rfl).size
 have hni := name_iff hh; obtain ⟨T, hT⟩ : ∃ T, stO b l (pName l) = T := ⟨_, rfl⟩; rw [hT]; rw [hni] at hT; obtain ⟨x, hx⟩ : ∃ x, (if b = true then (⟨#[]⟩ : ByteArray) else textN l) = x := ⟨_, rfl⟩; rw [hx] at HC hsz; obtain ⟨R, hR⟩ : ∃ R, nameB x.data.toList = R := ⟨_, rfl⟩
 have hyes : R = true → b = false ∧ l ≠ [] ∧ T = .got x l.tail := fun e => by
  subst e; cases b with
  | true => subst hx; cases hR
  | false =>
   have hx2 : textN l = x := hx; rw [hx2] at hT; refine ⟨rfl, fun e => ?_, ?_⟩
   ·subst e; subst hx2; cases hR
   ·rw [hR] at hT; exact hT.symm
 have hno : R = false → stO b l (.bad l) = T := fun e => by
  subst e; cases b with
  | true => exact hT
  | false =>
   have hx2 : textN l = x := hx; rw [hx2, hR] at hT; exact hT
 have HY := Z_ hyes; have HNO := Z_ hno; have HP := Z_ (fun u (hE : Ext w u) => h.extend hE); have HNM := Z_ (fun u => rname.name_any x u (by omega)); rw [hR] at HNM; clear hh hni hT hyes hno hx hR h; go_enter Tryz.func89, Tryz.ntmps89
 go_wp2_with fail
 refine HC.out.mono ?_
 rintro e w1 ⟨rfl, hE⟩; go_wp2_with fail
 refine (HNM.out _).mono ?_
 rintro e w2 ⟨rfl, hE2⟩; have hE3 := hE.ext hE2; have hP := HP.out _ hE3; have HE := Z_ hE3; clear hE hE2 hE3; cases R with
 | false =>
  obtain ⟨a', n', c', k', hB, -, -⟩ := rdr_blk hP; have hc := hB.cell 2; have hf := hB.frozen 2; have hSl := hB.lt; simp at hc
  have HR := Z_ (rdr_fail hP); clear hP hB; go_wp2_with fail
  go_ret
  refine Rst.mk (y := (⟨#[]⟩ : ByteArray)) (chg_set (ext_at HE.out S) 2 _) ⟨rfl, by decide⟩ HR.out ?_
  have := HNO.out (by trivial); cases b with
  | true => exact this
  | false => exact this
 | true =>
  obtain ⟨rfl, hl, hT⟩ := HY.out (by trivial)
  obtain ⟨t, r, rfl⟩ : ∃ t r, l = t :: r := by
   cases l with
   | nil => exact absurd rfl hl
   | cons t r => exact ⟨t, r, rfl⟩
  have HT := Z_ hT; obtain ⟨k, hk, hk2, hP2⟩ := rdr_step hP; obtain ⟨a', n', c', k', hB, -, -⟩ := rdr_blk hP; have hf := hB.frozen 1; have hSl := hB.lt; have hkw : IntKind.i64.wrap ((k : Int) + 1) = (k : Int) + 1 := wrap_small _ (by omega) (by omega); have HP2 := Z_ hP2; clear hP2 hP hB hT hl; go_wp2_with fail
  go_ret
  exact Rst.mk (chg_set (ext_at HE.out S) 1 _) ⟨rfl, by omega⟩ HP2.out HT.out.symm
def VStr3 (s : ByteArray) (v : Value) (_ : World) : Prop := v = .string s ∧ s.size ≤ 3000
theorem name_any3 {W w : World} {S : Nat} {l : List Tk} {b : Bool} (h : RdrAt W w S l b) :
  Calls Tryz.prog 89 #[.pointer (some ⟨S, 0, none⟩)] w (Rst VStr3 W w S (stO b l (pName l))) := name_any h
set_option maxRecDepth 100000 in
set_option maxHeartbeats 4000000 in
theorem label_any {W w : World} {S : Nat} {l : List Tk} {b : Bool} (h : RdrAt W w S l b) :
  Calls Tryz.prog 160 #[.pointer (some ⟨S, 0, none⟩)] w (Rst VLab W w S (stO b l (pLabel l))) := by
 have HC := Z_ (eat_any h sHigh (by decide)); obtain ⟨T, hT⟩ : ∃ T, stO b l (pLabel l) = T := ⟨_, rfl⟩; have hne : T ≠ .out := by rw [← hT]; exact st_ne (pLabel_ne l)
 rw [hT]; unfold pLabel at hT; have H1 := Z_ (fun he => now_eat hT he); have H2 := Z_ (fun he => now_not hT he); have HNE := Z_ hne; clear h hT hne; generalize (!b && isB l [sHigh]) = R at *; go_enter Tryz.func160, Tryz.ntmps160
 go_wp2_with fail
 refine HC.out.mono ?_
 rintro e w1 ⟨rfl, hC, hP⟩; cases R with
 | true =>
  have HR := Z_ (show RdrAt W w1 S l.tail b by simpa using hP); have HCC := Z_ hC; clear hP hC; go_wp2_with fail
  go_ret
  obtain ⟨rfl, h3, h4⟩ := H1.out (by trivial); exact Rst.mk HCC.out ⟨rfl, by decide, by decide⟩ HR.out h4
 | false =>
  have hP2 : RdrAt W w1 S l b := by simpa using hP
  have HT := Z_ (H2.out (by trivial)); have HM := Z_ (must_any hP2 sLow (by decide)); have HCC := Z_ hC; clear hP hP2 hC H1 H2 HC; go_wp2_with fail
  refine HM.out.mono ?_
  rintro e w2 ⟨hC2, y, v, l2, b2, rfl, rfl, hR2, hrel⟩; have HT2 := Z_ (now_bind HT.out HNE.out hrel); have HR2 := Z_ hR2; have HC2 := Z_ (HCC.out.then hC2); clear hC2 hR2 hrel; go_wp2_with fail
  go_ret
  exact Rst.mk HC2.out ⟨rfl, by decide, by decide⟩ HR2.out HT2.out
set_option maxRecDepth 100000 in
set_option maxHeartbeats 4000000 in
theorem whole_any {W w : World} {S : Nat} {l : List Tk} {b : Bool} (h : RdrAt W w S l b) :
  Calls Tryz.prog 259 #[.pointer (some ⟨S, 0, none⟩)] w (Rst VStr W w S (stO b l (pWhole l))) := by
 have HC := Z_ (name_any3 h); obtain ⟨T, hT⟩ : ∃ T, stO b l (pWhole l) = T := ⟨_, rfl⟩; have hne : T ≠ .out := by rw [← hT]; exact st_ne (pWhole_ne l)
 rw [hT]; unfold pWhole at hT; have HT := Z_ hT; have HNE := Z_ hne; clear h hT hne; go_enter Tryz.func259, Tryz.ntmps259
 go_wp2_with fail
 refine HC.out.mono ?_
 rintro e w1 ⟨hC1, s1, v, l1, b1, rfl, ⟨rfl, hs1⟩, hR1, hrel⟩; have HT1 := Z_ (now_bind HT.out HNE.out hrel); have HC1 := Z_ hC1; have HE := Z_ (eat_any hR1 sDot (by decide)); have H1 := Z_ (fun he => now_eat HT1.out he); have H2 := Z_ (fun he => now_not HT1.out he); clear hC1 hR1 hrel HT HC HT1; generalize (!b1 && isB l1 [sDot]) = R at *; go_wp2_with fail
 refine HE.out.mono ?_
 rintro e w2 ⟨rfl, hC2, hP⟩; have HC2 := Z_ (HC1.out.then hC2); cases R with
 | false =>
  have HR := Z_ (show RdrAt W w2 S l1 b1 by simpa using hP); clear hP hC2; go_wp2_with fail
  go_ret
  exact Rst.mk HC2.out ⟨rfl, by omega⟩ HR.out (H2.out (by trivial))
 | true =>
  obtain ⟨rfl, h3, h4⟩ := H1.out (by trivial); have hP2 : RdrAt W w2 S l1.tail false := by simpa using hP
  have HN := Z_ (name_any3 hP2); have HT4 := Z_ (show stO false l1.tail ((pName l1.tail).bind fun t l => .got (s1 ++ (sDot ++ t)) l) = T from h4); clear hP hP2 hC2 h3 h4 H1 H2 HE; go_wp2_with fail
  refine HN.out.mono ?_
  rintro e w3 ⟨hC3, s3, v, l3, b3, rfl, ⟨rfl, hs3⟩, hR3, hrel⟩; have HT5 := Z_ (now_bind HT4.out HNE.out hrel); have HC3 := Z_ (HC2.out.then hC3); have HR3 := Z_ hR3; have hz1 : (s1 ++ (⟨#[46]⟩ : ByteArray)).size = s1.size + 1 := by rw [ByteArray.size_append]; rfl
  have hz2 : ((s1 ++ (⟨#[46]⟩ : ByteArray)) ++ s3).size = s1.size + 1 + s3.size := by rw [ByteArray.size_append, hz1]
  have HZ := Z_ hz2; clear hC3 hR3 hrel hz2; go_wp2_with fail
  go_ret
  have e : (s1 ++ (⟨#[46]⟩ : ByteArray)) ++ s3 = s1 ++ (sDot ++ s3) := ByteArray.append_assoc ..; refine Rst.mk (y := s1 ++ (sDot ++ s3)) HC3.out ⟨by rw [← e]; rfl, by rw [← e, HZ.out]; omega⟩ HR3.out HT5.out
end synr
end Go.Proofs.YtpcihajmcejliabGreatDoor
namespace Go.Proofs.YtpcihajmcejliabGreatDoor
open Go.RowKit
namespace synr
open synw
structure RAt (W w0 u : World) (S A : Nat) (l : List Tk) (b : Bool) : Prop where
 pr : RdrAt W u S l b
 chg : Chg (fun i => i = S) w0 u
 res : Blk u A zeroNd 66
 hS : S < w0.heap.size
 hA : w0.heap.size ≤ A
theorem RAt.start {W w : World} {S : Nat} {l : List Tk} {b : Bool} (h : RdrAt W w S l b) : RAt W w (w.alloc (.cells zeroNd 66)) S w.heap.size l b :=
 ⟨h.extend ((Chg.refl _ _).alloc _), (Chg.refl _ _).alloc _, Blk.made _ _ _, h.lt, Nat.le_refl _⟩
theorem RAt.call {W w0 u u' : World} {S A : Nat} {l l' : List Tk} {b b' : Bool} (h : RAt W w0 u S A l b) (hC : Chg (fun i => i = S) u u') (hP : RdrAt W u' S l' b') : RAt W w0 u' S A l' b' := by
 have h1 := h.hS; have h2 := h.hA
 exact ⟨hP, h.chg.then hC, h.res.chg hC (by omega), h1, h2⟩
theorem RAt.extend {W w0 u u' : World} {S A : Nat} {l : List Tk} {b : Bool} (h : RAt W w0 u S A l b) (hE : Ext u u') : RAt W w0 u' S A l b := h.call (ext_at hE S) (h.pr.extend hE)
theorem RAt.alloc {W w0 u : World} {S A : Nat} {l : List Tk} {b : Bool} (h : RAt W w0 u S A l b) (o : Obj) : RAt W w0 (u.alloc o) S A l b := h.extend ((Chg.refl _ _).alloc o)
theorem RAt.far {W w0 u u' : World} {S A : Nat} {l : List Tk} {b : Bool} (h : RAt W w0 u S A l b) {M : Nat → Prop} (hC : Chg M u u') (hM : ∀ i, M i → A < i) : RAt W w0 u' S A l b := by
 have h1 := h.hS; have h2 := h.hA; have h3 := h.pr.hS
 exact ⟨h.pr.chg hC (fun e => by have := hM _ e; omega) (fun i e => by have := hM _ e; omega), h.chg.trans hC (fun i hi e => by have := hM _ e; omega), h.res.chg hC (fun e => by have := hM _ e; omega), h1, h2⟩
theorem RAt.lt {W w0 u : World} {S A : Nat} {l : List Tk} {b : Bool} (h : RAt W w0 u S A l b) : A < u.heap.size := h.res.lt
theorem ret_value {W w0 u : World} {S A : Nat} {l : List Tk} {b : Bool} {T : Out Nd} {x : Nd} {p q r s : Value} (h : RAt W w0 u S A l b) (M : Nat → Bool) (hx : NdAt (hide M u) x (.agg #[p, q, r, s])) (hMA : M A = true) (hM0 : ∀ i, i < w0.heap.size → M i = true) (hT : stO b l (.got x l) = T) :
  Rst (VN w0.heap.size) W w0 S T (.returned (.agg #[p, q, r, s])) ((((u.setCell ⟨A, 0, none⟩ p).setCell ⟨A, 1, none⟩ q).setCell ⟨A, 2, none⟩ r).setCell ⟨A, 3, none⟩ s) := by
 have h1 := h.hS; have h2 := h.hA; have hWS := h.pr.hS
 have hC : Chg (fun i => i = A) u ((((u.setCell ⟨A, 0, none⟩ p).setCell ⟨A, 1, none⟩ q).setCell ⟨A, 2, none⟩ r).setCell ⟨A, 3, none⟩ s) := chg_set (chg_set (chg_set (chg_set (Chg.refl _ _) 0 p) 1 q) 2 r) 3 s; refine Rst.mk (h.chg.trans hC fun i hi e => by omega) ?_ (h.pr.chg hC (by omega) (fun i e => by omega)) hT
 refine ndAt_keeps (keeps_hide (Nat.le_refl _) fun i hi hm => ⟨?_, rfl⟩) _ _ (ndAt_keeps (keeps_chg hC fun i _ e => by rw [e]; exact hMA) _ _ hx)
 simp only [below, decide_eq_false_iff_not]; intro hlt; rw [hM0 i hlt] at hm; cases hm
def rArgs (S : Nat) : NT → Option (FuncId × Array Value)
 | .expr => some (258, #[.pointer (some ⟨S, 0, none⟩)])
 | .bound k => some (290, #[.pointer (some ⟨S, 0, none⟩), .int .i64 (k : Nat)])
 | .unary => some (328, #[.pointer (some ⟨S, 0, none⟩)])
 | .asked => some (256, #[.pointer (some ⟨S, 0, none⟩)])
 | .place s => some (261, #[.pointer (some ⟨S, 0, none⟩), .string s])
 | .call s => some (260, #[.pointer (some ⟨S, 0, none⟩), .string s])
 | .block => some (162, #[.pointer (some ⟨S, 0, none⟩)])
 | .stat => some (227, #[.pointer (some ⟨S, 0, none⟩)])
 | .decl => some (91, #[.pointer (some ⟨S, 0, none⟩)])
 | _ => none
def RC (b0 g0 : Bool) (n : Nat) (X : NT) : Prop := ∀ {W w : World} {S : Nat} {l : List Tk} {b : Bool} (f : FuncId) (a : Array Value), RdrAt W w S l b → (b0 = true → b = true) → (g0 = true → b = false) → rArgs S X = some (f, a) → askOf X → stO b l (prs n X l) ≠ .out → Calls Tryz.prog f a w (Rst (VN w.heap.size) W w S (stO b l (prs n X l)))
theorem rc_none {n : Nat} {X : NT} : RC true true n X := fun f a h hb hg => by
 have h1 := hb rfl; have h2 := hg rfl; rw [h1] at h2; cases h2
theorem rc_weak {b0 g0 : Bool} {n : Nat} {X : NT} (h : RC false false n X) : RC b0 g0 n X := fun f a hR _ _ => h f a hR (fun e => by cases e) (fun e => by cases e)
theorem rc_fuel {g0 : Bool} {n m : Nat} {X : NT} (h : RC true g0 n X) : RC true g0 m X := fun {W w S l b} f a hR hb hg he ha hne => by
 obtain rfl := hb rfl; exact h f a hR hb hg he ha (fun e => by cases e)
theorem now_eat2 {α : Type} {b : Bool} {l : List Tk} {s : ByteArray} {p q : Out α} {T : Out α} (h : stO b l (if isB l [s] = true then p else q) = T) (he : (!b && isB l [s]) = true) : b = false ∧ ∀ l', stO false l' p = T := by
 obtain ⟨h1, _, h2⟩ := now_eat h he; exact ⟨h1, fun _ => h2⟩
theorem now_tail {α : Type} {b b2 : Bool} {l l2 : List Tk} {p : Out α} {T : Out α} {y : α} (h : stO b l p = T) (hT : T ≠ .out) (hr : Rel (stO b l p) y l2 b2) : stO b2 l2 (.got y l2) = T := by
 rw [h] at hr; cases T with
 | out => exact absurd rfl hT
 | bad q => obtain ⟨rfl, rfl⟩ := hr; rfl
 | got x q => obtain ⟨rfl, rfl, rfl⟩ := hr; rfl
theorem text_is {W w : World} {S : Nat} {l : List Tk} {b : Bool} (h : RdrAt W w S l b) (s : ByteArray) (hs : s ≠ ⟨#[]⟩) {q : List UInt8} (hq : s.data.toList = q) :
  Calls Tryz.prog 158 #[.pointer (some ⟨S, 0, none⟩)] w fun e w' => ∃ x, e = .returned (.string x) ∧ (x.toList == q) = (!b && isB l [s]) ∧ Ext w w' := by
 refine (text_any h).mono ?_
 rintro e w' ⟨rfl, hE⟩; refine ⟨_, rfl, ?_, hE⟩
 have h1 := str_eq (a := if b = true then (⟨#[]⟩ : ByteArray) else textN l) (b := s); rw [eat_iff hs] at h1; rw [← h1, ByteArray.toList_eq s, hq]
theorem rel_bad {α : Type} {b b2 b0 : Bool} {l l2 : List Tk} {p : Out α} {y : α} (h : Rel (stO b l p) y l2 b2) (hb : b0 = true → b = true) : b0 = true → b2 = true := by
 intro e; have e2 := hb e; subst e2; exact h.2
theorem grown_blk {w w' : World} {own : Option Nat} {A : Nat} {cs : Array Value} {T : TypeId} (hg : w.grownBy w' own) (hb : Blk w A cs T) (ho : own ≠ some A) : Blk w' A cs T :=
 (hg.block A hb.lt (by first | exact ho | exact fun e => ho e.symm)).trans hb
theorem grown_low {u w3 w4 : World} {own : Option Nat} {o : Obj} (hg : (w3.alloc o).grownBy w4 own) (hE : Ext u w3) : Chg (fun i => own = some i) u w4 := by
 have hE2 : Ext u (w3.alloc o) := hE.alloc o; refine (hE2.weak (fun _ _ h => h.elim)).then ⟨hg.os, hg.tape, hg.output, hg.size, fun i hi hn => hg.block i hi (by first | exact hn | exact fun e => hn e.symm)⟩
set_option maxRecDepth 100000 in
set_option maxHeartbeats 4000000 in
theorem more_any {u : World} {B : Nat} {k m : Int} {t : ByteArray} {a : Option Addr} {n c : Nat} {acc : List Nd} {x : Nd} {v : Value} (hg : Grow 4 66 VNd B u (.slice a n c) acc) (hx : NdAt (hide (rowHid B (.slice a n c)) u) x v) (hB : B ≤ u.heap.size) (hn : acc.length ≤ 10000) :
  Calls Tryz.prog 257 #[.agg #[.int .i64 k, .string t, .int .i64 m, .slice a n c], v] u fun e w' =>
   ∃ g c', e = .returned (.agg #[.int .i64 k, .string t, .int .i64 m, .slice (some ⟨g, 0, none⟩) (acc.length + 1) c']) ∧ Grow 4 66 VNd B w' (.slice (some ⟨g, 0, none⟩) (acc.length + 1) c') (acc ++ [x]) ∧ Chg (fun i => (Value.slice a n c).ownBlock = some i) u w' ∧ ((Value.slice a n c).ownBlock = some g ∨ u.heap.size ≤ g) := by
 obtain ⟨p0, p1, p2, p3, p4, p5, rfl⟩ := nd_form hx; obtain ⟨H, hH⟩ : ∃ H, u.heap.size = H := ⟨_, rfl⟩; have hk1 := ((Blk.made u #[.int .i64 k, .string t, .int .i64 m, .slice a n c] 66).alloc (.cells #[.int .i64 p0, .string p1, .int .i64 p2, .slice p3 p4 p5] 66)).alloc (.cells #[.int .i64 0, .string ⟨#[]⟩, .int .i64 0, .slice none 0 0] 66); have hk2 := (Blk.made2 u (.cells #[.int .i64 k, .string t, .int .i64 m, .slice a n c] 66) #[.int .i64 p0, .string p1, .int .i64 p2, .slice p3 p4 p5] 66).alloc (.cells #[.int .i64 0, .string ⟨#[]⟩, .int .i64 0, .slice none 0 0] 66); have hk3 := Blk.made ((u.alloc (.cells #[.int .i64 k, .string t, .int .i64 m, .slice a n c] 66)).alloc (.cells #[.int .i64 p0, .string p1, .int .i64 p2, .slice p3 p4 p5] 66)) #[.int .i64 0, .string ⟨#[]⟩, .int .i64 0, .slice none 0 0] 66
 have e3 : ((u.alloc (.cells #[.int .i64 k, .string t, .int .i64 m, .slice a n c] 66)).alloc (.cells #[.int .i64 p0, .string p1, .int .i64 p2, .slice p3 p4 p5] 66)).heap.size = H + 1 + 1 := by simp [hH]
 rw [e3] at hk3; rw [hH] at hk1 hk2; have hE : Ext u ((((u.alloc (.cells #[.int .i64 k, .string t, .int .i64 m, .slice a n c] 66)).alloc (.cells #[.int .i64 p0, .string p1, .int .i64 p2, .slice p3 p4 p5] 66)).alloc (.cells #[.int .i64 0, .string ⟨#[]⟩, .int .i64 0, .slice none 0 0] 66))) := (((Chg.refl _ _).alloc _).alloc _).alloc _; have hsz : (((u.alloc (.cells #[.int .i64 k, .string t, .int .i64 m, .slice a n c] 66)).alloc (.cells #[.int .i64 p0, .string p1, .int .i64 p2, .slice p3 p4 p5] 66)).alloc (.cells #[.int .i64 0, .string ⟨#[]⟩, .int .i64 0, .slice none 0 0] 66)).heap.size = H + 1 + 1 + 1 := by simp [hH]
 obtain ⟨us, hu1, ho, hu3⟩ := hg.ex; have HO := Z_ ho; have HU := Z_ (And.intro hu1 hu3); have HX := Z_ hx; have HK1 := Z_ hk1; have HK2 := Z_ hk2; have HK3 := Z_ hk3; have HE := Z_ hE; have HB := Z_ hB; have HS := Z_ hsz; clear hg hx hk1 hk2 hk3 hE hB e3 ho hu1 hu3 hsz; go_enter Tryz.func257, Tryz.ntmps257
 go_upto_region 1 with (fail)
 generalize (((u.alloc (.cells #[.int .i64 k, .string t, .int .i64 m, .slice a n c] 66)).alloc (.cells #[.int .i64 p0, .string p1, .int .i64 p2, .slice p3 p4 p5] 66)).alloc (.cells #[.int .i64 0, .string ⟨#[]⟩, .int .i64 0, .slice none 0 0] 66)) = w3 at *; have hN1 : H + 1 ≠ H + 1 + 1 := by omega
 have c1 := HK1.out.cell; have f1 := HK1.out.frozen; have l1 := HK1.out.lt; have c2 := HK2.out.cell; have c3 := HK3.out.cell; have hs3 := HS.out; have hown3 := ownsRow_ext HO.out HE.out; have hB3 := HB.out
 have hrow : ∀ i, H ≤ i → (Value.slice a n c).ownBlock ≠ some i := fun i hi e => by
  have := (World.ownsRow.lt HO.out i e).2; omega
 obtain ⟨i0_, hi, hz0, hz1, hz2⟩ := info_split info_node; go_wp2_with (at_builtin; refine wpList_append_lies _ rfl _ _ 35 rfl B 66 i0_ (.agg #[.int .i64 0, .string ⟨#[]⟩, .int .i64 0, .slice none 0 0]) 4 56 Tryz.underlying35 hi hz0 hz1 hz2 rfl (by decide) (.slice a n c) acc.length (us.flatMap fun u => u.cells.toList) rfl (hown3.alloc _) ⟨H + 1 + 1 + 1, 0, none⟩ 1 1 [.int .i64 p0, .string p1, .int .i64 p2, .slice p3 p4 p5] rfl rfl (by intro j q hj; have e : (⟨H + 1 + 1 + 1, 0, none⟩ : Addr).add j = ⟨H + 1 + 1 + 1, j, none⟩ := (by unfold Addr.add; split <;> simp_all); rw [e, ← hs3, (Blk.made w3 _ _).cell]; simpa using hj) (by intro q hq; simp at hq; rcases hq with rfl | rfl | rfl | rfl <;> rfl) (by decide) (by unfold maxLen; omega) (by omega) (by simp; omega) (H + 1 + 1 + 1 + 1) (by simp [hs3]) ?_; intro g cap' w4 hown hgrow hat hlt1; have HL := Z_ (grown_low hgrow HE.out); have HB1 := Z_ (grown_blk hgrow (HK1.out.alloc _) (hrow H (Nat.le_refl _))); have HB3 := Z_ (grown_blk hgrow (HK3.out.alloc _) (hrow _ (by omega))); have q1 := HB1.out.cell; have q1f := HB1.out.frozen; have q1l := HB1.out.lt; have q3 := HB3.out.cell; have q3f := HB3.out.frozen; have q3l := HB3.out.lt; have HG := Z_ (And.intro hown (And.intro hat hgrow)); clear hown hgrow hat; clear c1 f1 l1 c2 c3 HK1 HK2 HK3)
 have hN3 : H + 1 + 1 ≠ H := by omega
 refine ends_at rfl rfl rfl (((((HB3.out.setOther (p := ⟨H, 3, none⟩) hN3 _).set 0 _).set 1 _).set 2 _).set 3 _) Tryz.underlying66 rfl (by kernel_rfl) ?_
 obtain ⟨hown, hat, hgr⟩ := HG.out; obtain ⟨hu1, hu3⟩ := HU.out
 have hg0 : g ≠ H := fun e => by
  subst e; rcases hat with h | h
  ·exact hrow g (Nat.le_refl _) h
  ·omega
 have hg2 : g ≠ H + 1 + 1 := fun e => by
  rcases hat with h | h
  ·exact hrow g (by omega) h
  ·omega
 refine ⟨g, cap', rfl, ?_, ?_, by rcases hat with h | h; exact .inl h; exact .inr (by omega)⟩
 ·refine Grow.push vnd_keeps hu1 hu3 HX.out (nd_size HX.out) (v' := .slice (some ⟨g, 0, none⟩) (acc.length + 1) cap') ?_ ?_ ?_ ?_
  ·have e : ∀ j, (Value.slice (some ⟨g, 0, none⟩) (acc.length + 1) cap').ownBlock = some j → j = g := fun j h => by simpa [Value.ownBlock] using h.symm
   exact ownsRow_set (ownsRow_set (ownsRow_set (ownsRow_set (ownsRow_set hown (fun j h => by have := e j h; show j ≠ H; omega) _) (fun j h => by have := e j h; show j ≠ H + 1 + 1; omega) _) (fun j h => by have := e j h; show j ≠ H + 1 + 1; omega) _) (fun j h => by have := e j h; show j ≠ H + 1 + 1; omega) _) (fun j h => by have := e j h; show j ≠ H + 1 + 1; omega) _
  ·have := HL.out.size
   simpa using this
  ·intro i hi hn
   rw [Below.heap_setCell _ _ _ _ (by show i ≠ H + 1 + 1; omega), Below.heap_setCell _ _ _ _ (by show i ≠ H + 1 + 1; omega), Below.heap_setCell _ _ _ _ (by show i ≠ H + 1 + 1; omega), Below.heap_setCell _ _ _ _ (by show i ≠ H + 1 + 1; omega), Below.heap_setCell _ _ _ _ (by show i ≠ H; omega)]; exact HL.out.block i hi hn
  ·intro i hi
   have e : g = i := by simpa [Value.ownBlock] using hi
   subst e; rcases hat with h | h
   ·exact .inl h
   ·exact .inr (by omega)
 ·exact ((((HL.out.setNew (p := ⟨H, 3, none⟩) (by show u.heap.size ≤ H; omega) _).setNew (p := ⟨H + 1 + 1, 0, none⟩) (by show u.heap.size ≤ H + 1 + 1; omega) _).setNew (p := ⟨H + 1 + 1, 1, none⟩) (by show u.heap.size ≤ H + 1 + 1; omega) _).setNew (p := ⟨H + 1 + 1, 2, none⟩) (by show u.heap.size ≤ H + 1 + 1; omega) _).setNew (p := ⟨H + 1 + 1, 3, none⟩) (by show u.heap.size ≤ H + 1 + 1; omega) _
end synr
end Go.Proofs.YtpcihajmcejliabGreatDoor
namespace Go.Proofs.YtpcihajmcejliabGreatDoor
open Go.RowKit
namespace synr
open synw
def decTo (s : ByteArray) (k : Nat) : Nat := decFrom 0 (s.data.toList.take k)
theorem decTo_step (s : ByteArray) (k : Nat) (h : k < s.size) : decTo s (k + 1) = decTo s k * 10 + (s[k].toNat - 48) := by
 unfold decTo decFrom; have h2 : k < s.data.toList.length := by simpa using h
 rw [List.take_succ_eq_append_getElem h2, List.foldl_append, List.foldl_cons, List.foldl_nil, dstep_eq]; rfl
theorem decTo_le (s : ByteArray) (k : Nat) : decTo s k ≤ decFrom 0 s.data.toList := by
 have h := decFrom_ge (s.data.toList.drop k) (decTo s k)
 have e : decFrom (decTo s k) (s.data.toList.drop k) = decFrom 0 s.data.toList := by
  unfold decTo decFrom; rw [← List.foldl_append, List.take_append_drop]
 rw [e] at h; exact h
theorem decTo_all (s : ByteArray) : decTo s s.size = decFrom 0 s.data.toList := by
 unfold decTo; rw [List.take_of_length_le (by simp)]
theorem digit_at (s : ByteArray) (k : Nat) (h : k < s.size) (hd : digs s.data.toList = true) : 48 ≤ s[k].toNat ∧ s[k].toNat ≤ 57 := by
 have h2 : s[k] ∈ s.data.toList := List.getElem_mem (l := s.data.toList) (n := k) (by simpa using h); have := List.all_eq_true.1 hd _ h2; exact (digitB_iff _).1 this
theorem u8_small (x : Nat) (h : x < 256) : IntKind.u8.wrap (x : Int) = x := by unfold IntKind.wrap; simp only [IntKind.bits, IntKind.signed]; simp; omega
set_option maxRecDepth 100000 in
set_option maxHeartbeats 4000000 in
theorem number_any {W w : World} {S : Nat} {l : List Tk} (h : RdrAt W w S l false) :
  Calls Tryz.prog 161 #[.pointer (some ⟨S, 0, none⟩)] w (Rst (VN w.heap.size) W w S (pNumber l)) := by
 have HAT : Hid (RAt W w ((w.alloc (.cells #[.int .i64 0, .string ⟨#[]⟩, .int .i64 0, .slice none 0 0] 66)).alloc (.cells #[.int .i64 15, .string ⟨#[]⟩, .int .i64 0, .slice none 0 0] 66)) S w.heap.size l false) := Z_ ((RAt.start h).alloc _); have HN := Z_ (Blk.made2 w (.cells #[.int .i64 0, .string ⟨#[]⟩, .int .i64 0, .slice none 0 0] 66) #[.int .i64 15, .string ⟨#[]⟩, .int .i64 0, .slice none 0 0] 66); obtain ⟨A, hA⟩ : ∃ A, w.heap.size = A := ⟨_, rfl⟩; rw [hA] at HAT HN; have hSA : S < A := by have := h.lt; omega
 have hSN : S ≠ A + 1 := by omega
 have hAN : A ≠ A + 1 := by omega
 cases l with
 | nil =>
  clear h; go_enter Tryz.func161, Tryz.ntmps161
  go_upto_region 2 with (fail)
  generalize (w.alloc (.cells #[.int .i64 0, .string ⟨#[]⟩, .int .i64 0, .slice none 0 0] 66)).alloc (.cells #[.int .i64 15, .string ⟨#[]⟩, .int .i64 0, .slice none 0 0] 66) = u0 at *; obtain ⟨ra, rn, rc, rk, hbk, hk1, hk2, hk3⟩ := HAT.out.pr.ex; have c0 := hbk.cell 0; have c1 := hbk.cell 1; have c2 := hbk.cell 2; simp at c0 c1 c2
  simp only [List.length_nil, Nat.add_zero] at hk1; subst hk1; have hge : ((rk : Int) ≥ (rk : Int)) := Int.le_refl _; have hge2 : decide (rk ≤ rk) = true := by simp
  clear hk3 hbk; go_wp2_with fail
  go_quiet (fail)
  replace HAT := Z_ (HAT.out.extend ((Chg.refl _ _).drewN nq)); replace HN := Z_ (show Blk (u0.drewN nq) (A + 1) _ _ from HN.out); clear c0 c1 c2; generalize u0.drewN nq = u1 at *; obtain ⟨a', n', c', k', hB, -, -⟩ := rdr_blk HAT.out.pr; have hf := hB.frozen 2; have hc := hB.cell 2; have hSl := hB.lt; simp at hc
  have HAT2 := Z_ (HAT.out.call (chg_set (S := S) (Chg.refl _ _) 2 (.bool true)) (rdr_fail HAT.out.pr)); have HN2 := Z_ (HN.out.setOther (p := ⟨S, 2, none⟩) (fun e => hSN e.symm) (.bool true)); clear hB HN HAT; go_upto_region 4 with (fail)
  generalize u1.setCell ⟨S, 2, none⟩ (.bool true) = w5 at *; have n0 := HN2.out.cell; have r0 := HAT2.out.res.cell; have rf := HAT2.out.res.frozen; have rl := HAT2.out.res.lt; unfold zeroNd at r0; go_wp2_with fail
  refine ends_at rfl rfl rfl ((((HAT2.out.res.set 0 _).set 1 _).set 2 _).set 3 _) Tryz.underlying66 rfl (by kernel_rfl) ?_
  exact ret_value HAT2.out (below (A + 1)) (ndAt_leaf _ _ _ _ (by decide)) (below_yes (by omega)) (fun i hi => below_yes (by omega)) rfl
 | cons t r =>
  have ho := rdr_ok h; clear h; go_enter Tryz.func161, Tryz.ntmps161
  go_upto_region 2 with (fail)
  generalize (w.alloc (.cells #[.int .i64 0, .string ⟨#[]⟩, .int .i64 0, .slice none 0 0] 66)).alloc (.cells #[.int .i64 15, .string ⟨#[]⟩, .int .i64 0, .slice none 0 0] 66) = u0 at *; obtain ⟨ra, rn, rc, rk, hbk, hk1, hk2, hk3⟩ := HAT.out.pr.ex; have c0 := hbk.cell 0; have c1 := hbk.cell 1; have c2 := hbk.cell 2; simp at c0 c1 c2
  obtain ⟨tq, tp, rfl, hbb, ht⟩ := hk3 0 (by simp); obtain ⟨t0, t1, t2, -⟩ := ht; have e : ∀ i, u0.cell? ⟨tq, i, none⟩ = W.cell? ⟨tq, i, none⟩ := fun i => HAT.out.pr.ext.cell (by exact hbb) id
  have hbW := Nat.lt_of_lt_of_le hbb HAT.out.pr.ext.size; rw [← e] at t0 t1 t2; simp only [Nat.add_zero, List.getElem_cons_zero] at t0 t1 t2; have hkn : (rk : Int) < (rn : Int) := by simp at hk1; omega
  have hkn2 : ¬ ((rn : Int) ≤ (rk : Int)) := by omega
  have hkn3 : decide (rn ≤ rk) = false := by simp; omega
  obtain ⟨tk, tt, ta⟩ := t; simp only at t0 t1 t2; clear hk3 hbk e hk1 hbb; by_cases hk : tk = 2
  ·subst hk
   obtain ⟨hd1, hd2, hd3⟩ := ho.num rfl; have hsz := ho.size; simp only at hd1 hd2 hd3 hsz; have HD := Z_ hd1; have HD3 := Z_ hd3; clear hd1 hd2 hd3 ho t2; go_wp2_with fail
   go_quiet (fail)
   have t1' : (u0.drewN nq).cell? ⟨tq, tp + rk * 3 + 1, none⟩ = _ := t1; have c0' : (u0.drewN nq).cell? ⟨S, 0, none⟩ = _ := c0; have c1' : (u0.drewN nq).cell? ⟨S, 1, none⟩ = _ := c1; replace HAT := Z_ (HAT.out.extend ((Chg.refl _ _).drewN nq)); replace HN := Z_ (show Blk (u0.drewN nq) (A + 1) _ _ from HN.out); have hbq : tq < (u0.drewN nq).heap.size := hbW; clear c0 c1 c2 t0 t1; generalize u0.drewN nq = u1 at *; go_wp2_with fail
   go_quiet (fail)
   replace HAT := Z_ (HAT.out.extend ((Chg.refl _ _).drewN nq)); replace HN := Z_ (show Blk (u1.drewN nq) (A + 1) _ _ from HN.out); clear c0' c1' t1'; generalize u1.drewN nq = u2 at *; go_wp2_with fail
   go_loopw [5] (fun i wr => ∃ k : Nat, k ≤ tt.size ∧ i = .int .i64 k ∧ Hid (Blk wr (A + 1) #[.int .i64 15, .string ⟨#[]⟩, .int .i64 (decTo tt k : Nat), .slice none 0 0] 66) ∧ Hid (RAt W w wr S A (⟨2, tt, ta⟩ :: r) false)) (fun i _ => tt.size - (intOf i).toNat)
   case atStart => exact ⟨0, Nat.zero_le _, rfl, HN, HAT⟩
   clear HN HAT
   case round =>
    obtain ⟨k, hk, rfl, HN, HAT⟩ := hrel; by_cases hlt : k < tt.size
    ·have hd : decide ((k : Int) < (tt.size : Int)) = true := by simp; omega
     have hdg := digit_at tt k hlt HD.out; have hstep := decTo_step tt k hlt; have hle := decTo_le tt (k + 1); have hd3 := HD3.out; obtain ⟨d, hdd⟩ : ∃ d : Nat, tt[k].toNat = d := ⟨_, rfl⟩; rw [hdd] at hdg hstep; have w1 : IntKind.u8.wrap ((d : Int) - 48) = ((d - 48 : Nat) : Int) := by rw [show (d : Int) - 48 = ((d - 48 : Nat) : Int) by omega]; exact u8_small _ (by omega)
     have w2 : IntKind.i64.wrap ((d - 48 : Nat) : Int) = ((d - 48 : Nat) : Int) := wrap_small _ (by omega) (by omega); have w3 : IntKind.i64.wrap (10 * (decTo tt k : Nat)) = 10 * ((decTo tt k : Nat) : Int) := wrap_small _ (by omega) (by omega); have w4 : IntKind.i64.wrap (10 * ((decTo tt k : Nat) : Int) + ((d - 48 : Nat) : Int)) = ((decTo tt (k + 1) : Nat) : Int) := by rw [wrap_small _ (by omega) (by omega)]; omega
     have n2 := HN.out.cell 2; have nf := HN.out.frozen 2; have nl := HN.out.lt; simp at n2
     have HN2 := Z_ (HN.out.drew.set 2 (.int .i64 (decTo tt (k + 1) : Nat))); have HAT2 := Z_ ((HAT.out.extend (Chg.refl _ _).drew).far (chg_set (S := A + 1) (Chg.refl _ _) 2 (.int .i64 (decTo tt (k + 1) : Nat))) (fun i e => by omega)); clear HN HAT hstep hle hd3 hdg; obtain ⟨V, hV⟩ : ∃ V, decTo tt (k + 1) = V := ⟨_, rfl⟩; rw [hV] at w4 HN2 HAT2; replace hV := Z_ hV; generalize decTo tt k = v at *; go_wp2_with fail
     go_still_tail 10, (by kernel_rfl)
     go_wp2_with fail
     go_roundw
     case rel => exact ⟨k + 1, by omega, by go_num, by rw [hV.out]; exact Z_ HN2.out, HAT2⟩
     case measure => simp [intOf]; omega
    ·obtain rfl : k = tt.size := by omega
     have hd : decide ((tt.size : Int) < (tt.size : Int)) = false := by simp
     have hv : ((decTo tt tt.size : Nat) : Int) = valOf tt := by rw [decTo_all]; rfl
     rw [hv] at HN; have HT := Z_ (show pNumber (⟨2, tt, ta⟩ :: r) = .got (.mk 15 noText (valOf tt) []) r from rfl); obtain ⟨V, hV⟩ : ∃ V, valOf tt = V := ⟨_, rfl⟩; rw [hV] at HN HT; generalize pNumber (⟨2, tt, ta⟩ :: r) = T at *; obtain ⟨k, hk, hk2, hP2⟩ := rdr_step HAT.out.pr; obtain ⟨a', n', c', k', hB, -, -⟩ := rdr_blk HAT.out.pr; have hf := hB.frozen 1; have hSl := hB.lt; have hkw : IntKind.i64.wrap ((k : Int) + 1) = (k : Int) + 1 := wrap_small _ (by omega) (by omega); have HAT2 := Z_ (HAT.out.call (chg_set (S := S) (Chg.refl _ _) 1 (.int .i64 ((k : Int) + 1))) hP2); have HN2 := Z_ (HN.out.setOther (p := ⟨S, 1, none⟩) (fun e => hSN e.symm) (.int .i64 ((k : Int) + 1))); clear hP2 hB HN HAT hv hV HD HD3 hsz; go_upto_region 11 with (fail)
     generalize wr.setCell ⟨S, 1, none⟩ (.int .i64 ((k : Int) + 1)) = w5 at *; have n0 := HN2.out.cell; have r0 := HAT2.out.res.cell; have rf := HAT2.out.res.frozen; have rl := HAT2.out.res.lt; unfold zeroNd at r0; go_wp2_with fail
     refine ends_at rfl rfl rfl ((((HAT2.out.res.set 0 _).set 1 _).set 2 _).set 3 _) Tryz.underlying66 rfl (by kernel_rfl) ?_
     exact ret_value HAT2.out (below (A + 1)) (ndAt_leaf _ _ _ _ (by decide)) (below_yes (by omega)) (fun i hi => below_yes (by omega)) HT.out.symm
  ·have hk2 : (tk == 2) = false := by simpa using hk
   have HT := Z_ (show pNumber (⟨tk, tt, ta⟩ :: r) = .bad (⟨tk, tt, ta⟩ :: r) from if_neg hk); generalize pNumber (⟨tk, tt, ta⟩ :: r) = T at *; clear t1 t2 ho; go_wp2_with fail
   go_quiet (fail)
   replace HAT := Z_ (HAT.out.extend ((Chg.refl _ _).drewN nq)); replace HN := Z_ (show Blk (u0.drewN nq) (A + 1) _ _ from HN.out); clear c0 c1 c2 t0; generalize u0.drewN nq = u1 at *; obtain ⟨a', n', c', k', hB, -, -⟩ := rdr_blk HAT.out.pr; have hf := hB.frozen 2; have hc := hB.cell 2; have hSl := hB.lt; simp at hc
   have HAT2 := Z_ (HAT.out.call (chg_set (S := S) (Chg.refl _ _) 2 (.bool true)) (rdr_fail HAT.out.pr)); have HN2 := Z_ (HN.out.setOther (p := ⟨S, 2, none⟩) (fun e => hSN e.symm) (.bool true)); clear hB HN HAT; go_upto_region 4 with (fail)
   generalize u1.setCell ⟨S, 2, none⟩ (.bool true) = w5 at *; have n0 := HN2.out.cell; have r0 := HAT2.out.res.cell; have rf := HAT2.out.res.frozen; have rl := HAT2.out.res.lt; unfold zeroNd at r0; go_wp2_with fail
   refine ends_at rfl rfl rfl ((((HAT2.out.res.set 0 _).set 1 _).set 2 _).set 3 _) Tryz.underlying66 rfl (by kernel_rfl) ?_
   exact ret_value HAT2.out (below (A + 1)) (ndAt_leaf _ _ _ _ (by decide)) (below_yes (by omega)) (fun i hi => below_yes (by omega)) HT.out.symm
end synr
end Go.Proofs.YtpcihajmcejliabGreatDoor
