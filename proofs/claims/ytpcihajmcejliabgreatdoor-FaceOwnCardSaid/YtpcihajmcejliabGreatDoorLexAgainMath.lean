/- Rows of digits, in plain Lean: how the library's reading of a number and the comparison with the greatest one agree. The walks of lex.number and scanner.next. The walk of scanner.next. The walk of lex.Scan. The program's Scan, of every text; what its tokens are in memory. The walks of the reference's package 2: bytes, signs. Tokens written one behind the other, with a blank between: plain Lean. -/
import Derived.Lib.ParseIntB
import Derived.Lib.SlTrimSet
import Derived.Test.YtpcihajmcejliabGreatDoorShelf
import Derived.Deep.OwnRows
import Derived.RegionTactic
import Derived.ChangeAlike
import Derived.WalkLawsBesides
import Derived.Test.YtpcihajmcejliabGreatDoorLexBlanks
namespace Go.Proofs.YtpcihajmcejliabGreatDoor
open Go.RowKit
def dstep (acc : Nat) (c : UInt8) : Nat := acc * 10 + (c.toNat - 48)
theorem dstep_eq (acc : Nat) (c : UInt8) : dstep acc c = acc * 10 + (c.toNat - 48) := by unfold dstep; exact Eq.refl _
attribute [irreducible] dstep
def decFrom (acc : Nat) (l : List UInt8) : Nat := l.foldl dstep acc
def digs (l : List UInt8) : Bool := l.all fun c => digitB c.toNat
def numeralF (l : List UInt8) : Int := if digs l = false then 2 else if 1 < l.length ∧ l.head? = some 48 then 2 else if 9223372036854775808 ≤ decFrom 0 l then 6 else 0
theorem digitB_iff (c : UInt8) : digitB c.toNat = true ↔ 48 ≤ c.toNat ∧ c.toNat ≤ 57 := by
 simp only [digitB, decide_eq_true_eq]; omega
theorem digs_cons (c : UInt8) (r : List UInt8) : digs (c :: r) = true ↔ (48 ≤ c.toNat ∧ c.toNat ≤ 57) ∧ digs r = true := by
 simp only [digs, List.all_cons, Bool.and_eq_true, digitB_iff]
theorem mulstep (acc d p q : Nat) : (acc * 10 + d) * p + q = acc * (p * 10) + (d * p + q) := by
 rw [Nat.add_mul, Nat.mul_assoc, Nat.mul_comm 10 p]; omega
theorem decFrom_step (acc : Nat) (c : UInt8) (r : List UInt8) : decFrom acc (c :: r) = decFrom (acc * 10 + (c.toNat - 48)) r := by
 unfold decFrom; rw [List.foldl_cons, dstep_eq]
theorem decFrom_eq (l : List UInt8) : ∀ acc, decFrom acc l = acc * 10 ^ l.length + decFrom 0 l := by
 induction l with
 | nil => intro acc; simp [decFrom]
 | cons c r ih =>
  intro acc; rw [decFrom_step, decFrom_step 0, ih, ih (0 * 10 + (c.toNat - 48)), List.length_cons, Nat.pow_succ]; generalize 10 ^ r.length = p; generalize decFrom 0 r = q; generalize c.toNat - 48 = d; rw [mulstep, Nat.zero_mul, Nat.zero_add]
theorem decFrom_ge (l : List UInt8) (acc : Nat) : acc ≤ decFrom acc l := by
 rw [decFrom_eq]; have : 0 < 10 ^ l.length := Nat.pow_pos (by omega); have := Nat.le_mul_of_pos_right acc this; omega
theorem decFrom_lt (l : List UInt8) (h : digs l = true) : decFrom 0 l < 10 ^ l.length := by
 induction l with
 | nil => simp [decFrom]
 | cons c r ih =>
  obtain ⟨hc, hr⟩ := (digs_cons c r).1 h; have := ih hr; rw [decFrom_step, List.length_cons, decFrom_eq, Nat.pow_succ]; have h1 : (0 * 10 + (c.toNat - 48)) * 10 ^ r.length ≤ 9 * 10 ^ r.length := Nat.mul_le_mul_right _ (by omega); omega
theorem decFrom_head (c : UInt8) (r : List UInt8) (h : 49 ≤ c.toNat) : 10 ^ r.length ≤ decFrom 0 (c :: r) := by
 rw [decFrom_step, decFrom_eq]; have h1 : 1 * 10 ^ r.length ≤ (0 * 10 + (c.toNat - 48)) * 10 ^ r.length := Nat.mul_le_mul_right _ (by omega); omega
theorem less_iff (l : List UInt8) : ∀ m, l.length = m.length → digs l = true → digs m = true → (Op.bytesLess l m = true ↔ decFrom 0 l < decFrom 0 m) := by
 induction l with
 | nil => intro m h _ _; cases m with | nil => simp [Op.bytesLess, decFrom] | cons _ _ => simp at h
 | cons c r ih =>
  intro m h hl hm; cases m with
  | nil => simp at h
  | cons d q =>
   obtain ⟨hc, hr⟩ := (digs_cons c r).1 hl; obtain ⟨hd, hq⟩ := (digs_cons d q).1 hm; have hlen : r.length = q.length := by simpa using h
   have b1 := decFrom_lt r hr; have b2 := decFrom_lt q hq; simp only [Op.bytesLess, decFrom_step, Bool.or_eq_true, Bool.and_eq_true, decide_eq_true_eq, beq_iff_eq, ih q hlen hr hq]; rw [decFrom_eq r (0 * 10 + (c.toNat - 48)), decFrom_eq q (0 * 10 + (d.toNat - 48)), UInt8.lt_iff_toNat_lt, ← UInt8.toNat_inj]; rw [← hlen] at b2 ⊢; generalize 10 ^ r.length = p at *; rcases Nat.lt_trichotomy c.toNat d.toNat with hlt | he | hgt
   ·have : (0 * 10 + (c.toNat - 48) + 1) * p ≤ (0 * 10 + (d.toNat - 48)) * p := Nat.mul_le_mul_right _ (by omega)
    rw [Nat.add_mul] at this; constructor
    ·intro _; omega
    ·intro _; exact .inl hlt
   ·rw [he]
    constructor
    ·rintro (h | ⟨_, h⟩) <;> omega
    ·intro h; exact .inr ⟨rfl, by omega⟩
   ·have : (0 * 10 + (d.toNat - 48) + 1) * p ≤ (0 * 10 + (c.toNat - 48)) * p := Nat.mul_le_mul_right _ (by omega)
    rw [Nat.add_mul] at this; constructor
    ·rintro (h | ⟨h, _⟩) <;> omega
    ·intro _; omega
theorem uint_digits (l : List UInt8) : ∀ acc, digs l = true → acc ≤ 18446744073709551615 → Lib.parseUintM 18446744073709551615 acc l = if decFrom acc l ≤ 18446744073709551615 then .ok (decFrom acc l) else .range := by
 induction l with
 | nil => intro acc _ h; simp [Lib.parseUintM, decFrom, h]
 | cons c r ih =>
  intro acc h hacc; obtain ⟨hc, hr⟩ := (digs_cons c r).1 h; rw [decFrom_step]; simp only [Lib.parseUintM, if_pos hc]; have hge := decFrom_ge r (acc * 10 + (c.toNat - 48)); by_cases h1 : 1844674407370955162 ≤ acc
  ·rw [if_pos h1, if_neg (by omega)]
  ·rw [if_neg h1]
   by_cases h2 : 18446744073709551615 < acc * 10 + (c.toNat - 48)
   ·rw [if_pos h2, if_neg (by omega)]
   ·rw [if_neg h2]
    exact ih _ hr (by omega)
theorem int_digits (l : List UInt8) (h : digs l = true) (hn : l ≠ []) : Lib.parseIntB 64 l = if decFrom 0 l < 9223372036854775808 then .ok (decFrom 0 l : Int) else .range := by
 cases l with
 | nil => exact absurd rfl hn
 | cons c r =>
  obtain ⟨hc, _⟩ := (digs_cons c r).1 h; have e := uint_digits (c :: r) 0 h (by omega); have n1 : ¬ (c.toNat = 43 ∨ c.toNat = 45) := by omega
  have n2 : ¬ c.toNat = 45 := by omega
  have e2 : Lib.parseUintB 64 (c :: r) = Lib.parseUintM 18446744073709551615 0 (c :: r) := by
   rw [Lib.parseUintB, if_neg hn]
  simp only [Lib.parseIntB, if_neg n1, e2, e]; by_cases h1 : decFrom 0 (c :: r) ≤ 18446744073709551615
  ·rw [if_pos h1]
   have e3 : (2 : Nat) ^ (64 - 1) = 9223372036854775808 := by decide
   simp only [n2, not_false_eq_true, true_and, e3, false_and, if_false]; by_cases h2 : 9223372036854775808 ≤ decFrom 0 (c :: r)
   ·rw [if_pos h2, if_neg (by omega)]
   ·rw [if_neg h2, if_pos (by omega)]
  ·rw [if_neg h1, if_neg (by omega)]
theorem dropWhile_nil_iff {α : Type} (p : α → Bool) (l : List α) : l.dropWhile p = [] ↔ ∀ x ∈ l, p x = true := by
 induction l with
 | nil => simp
 | cons a r ih =>
  by_cases h : p a = true
  ·simp [h, ih]
  ·simp [h]
theorem ten_contains (c : UInt8) : ([48, 49, 50, 51, 52, 53, 54, 55, 56, 57] : List UInt8).contains c = digitB c.toNat := by
 rw [Bool.eq_iff_iff, digitB_iff]; simp only [List.contains_cons, List.contains_nil, Bool.or_false, Bool.or_eq_true, beq_iff_eq, ← UInt8.toNat_inj]; have e : ∀ n, n < 256 → (UInt8.ofNat n).toNat = n := fun n h => by simp; omega
 have := c.toNat_lt; show _ = 48 ∨ _ = 49 ∨ _ = 50 ∨ _ = 51 ∨ _ = 52 ∨ _ = 53 ∨ _ = 54 ∨ _ = 55 ∨ _ = 56 ∨ _ = 57 ↔ _
 omega
theorem trim_digits (l : List UInt8) : Lib.trimS l [48, 49, 50, 51, 52, 53, 54, 55, 56, 57] = [] ↔ digs l = true := by
 have e : (fun x => ([48, 49, 50, 51, 52, 53, 54, 55, 56, 57] : List UInt8).contains x) = fun c => digitB c.toNat := funext ten_contains
 simp only [Lib.trimS, Lib.trimLeftS, Lib.trimRightS, e]; constructor
 ·intro h
  rw [dropWhile_nil_iff] at h; simp only [digs, List.all_eq_true]; cases hd : List.dropWhile (fun c : UInt8 => digitB c.toNat) l.reverse with
  | nil =>
   rw [dropWhile_nil_iff] at hd; intro x hx; exact hd x (by simpa using hx)
  | cons x xs =>
   have h1 := h x (by rw [hd]; simp); have h2 := List.head_dropWhile_not (fun c : UInt8 => digitB c.toNat) (l := l.reverse) (by rw [hd]; simp); simp only [hd, List.head_cons] at h2; rw [h1] at h2; cases h2
 ·intro h
  simp only [digs, List.all_eq_true] at h
  have : List.dropWhile (fun c : UInt8 => digitB c.toNat) l.reverse = [] := by
   rw [dropWhile_nil_iff]; intro x hx; exact h x (by simpa using hx)
  rw [this]; rfl
end Go.Proofs.YtpcihajmcejliabGreatDoor
namespace Go.Proofs.YtpcihajmcejliabGreatDoor
open Go.RowKit
def ErrVar (w : World) : Prop := ∃ tp p, w.var? Tryz.prog "strconv.ErrRange" = some #[.iface tp p]
theorem ErrVar.named : Tryz.prog.globalNamed "strconv.ErrRange" = some 2 := by kernel_rfl
theorem ErrVar.lt {w : World} (h : ErrVar w) : 2 < w.heap.size := by
 obtain ⟨tp, p, h⟩ := h; simp only [World.var?, ErrVar.named, Option.bind_some] at h; rcases Nat.lt_or_ge 2 w.heap.size with h' | h'
 ·exact h'
 ·rw [Array.getElem?_eq_none h'] at h; cases h
theorem ErrVar.chg {S : Nat → Prop} {w w' : World} (h : ErrVar w) (hc : Chg S w w') (hn : ¬ S 2) : ErrVar w' := by
 have hl := h.lt; obtain ⟨tp, p, h⟩ := h; refine ⟨tp, p, ?_⟩
 simp only [World.var?, ErrVar.named, Option.bind_some] at h ⊢; rw [hc.block _ hl hn]; exact h
theorem ErrVar.ext {w w' : World} (h : ErrVar w) (hc : Ext w w') : ErrVar w' := h.chg hc id
namespace lex
def tokV (k : Int) (t : ByteArray) (a : Int) : Value := .agg #[.int .i64 k, .string t, .int .i64 a]
theorem bytes_ext (w : World) (e : TypeId) (s : ByteArray) : Ext w (Lib.bytesWorld w e s) :=
 ⟨by simp [Lib.bytesWorld, World.freeze]; rfl, by simp [Lib.bytesWorld, World.freeze], by simp [Lib.bytesWorld, World.freeze]; rfl, by rw [Lib.bytesWorld_size]; omega, fun k hk _ => Lib.bytesWorld_at_old _ _ _ _ hk⟩
theorem parse_ok (s : ByteArray) (hs : s.size ≤ 100000) (hd : digs s.data.toList = true) (hn : s.data.toList ≠ []) (hl : decFrom 0 s.data.toList < 9223372036854775808) (w : World) :
  Calls Tryz.prog 251 #[.string s, .int .i64 10, .int .i64 64] w fun e w' => e = .returned (.tuple #[.int .i64 (decFrom 0 s.data.toList), .nilIface]) ∧ Ext w w' := by
 have h := int_digits _ hd hn; rw [if_pos hl] at h; refine (Tryz.strconv_ParseInt_10_at64_ok s (by omega) _ h w).mono ?_
 rintro e w' ⟨rfl, rfl | ⟨t, rfl⟩⟩
 ·exact ⟨rfl, Chg.refl _ _⟩
 ·exact ⟨rfl, bytes_ext _ _ _⟩
theorem parse_range (s : ByteArray) (hs : s.size ≤ 100000) (hd : digs s.data.toList = true) (hn : s.data.toList ≠ []) (hl : ¬ decFrom 0 s.data.toList < 9223372036854775808) (w : World) (hv : ErrVar w) :
  Calls Tryz.prog 251 #[.string s, .int .i64 10, .int .i64 64] w fun e w' => ∃ v T p, e = .returned (.tuple #[.int .i64 v, .iface T p]) ∧ Ext w w' := by
 have h := int_digits _ hd hn; rw [if_neg hl] at h; obtain ⟨tp, p, hv⟩ := hv; refine (Tryz.strconv_ParseInt_10_at64_range_var s (by omega) h tp p w hv).mono ?_
 rintro e w' ⟨N, rfl, _, _, hB⟩; exact ⟨_, _, _, rfl, Below.toExt hB⟩
set_option maxRecDepth 100000 in
set_option maxHeartbeats 1000000 in
theorem number_form (s : ByteArray) (w : World) (hs : s.size ≤ 100000) (hf : digs s.data.toList = false) :
  Calls Tryz.prog 217 #[.string s] w fun e w' => e = .returned (.tuple #[tokV 0 ⟨#[]⟩ 0, .int .i64 2]) ∧ Ext w w' := by
 obtain ⟨r, hr⟩ : ∃ r, Lib.trimS s.data.toList [48, 49, 50, 51, 52, 53, 54, 55, 56, 57] = r := ⟨_, rfl⟩
 have hne : r ≠ [] := by
  rw [← hr]; intro h; rw [(trim_digits _).1 h] at hf; cases hf
 have c1 := fun w => Tryz.strings_Trim_digits s w (by omega)
 rw [hr] at c1; have C1 := Z_ c1; have hb1 : r.isEmpty = false := by cases r <;> simp_all
 clear c1 hr hf hne; go_enter Tryz.func217, Tryz.ntmps217
 go_wp2_with (go_at_call 250; refine (C1.out _).mono ?_; rintro e w' ⟨rfl, hB⟩; have hE := ((Chg.refl (fun _ => False) w).alloc _).ext (Below.toExt hB); have hK := (Blk.made _ _ _).ext (Below.toExt hB); have hKc := hK.cell; have hKf := hK.frozen)
 exact bodyPost_ret (results_cell2 rfl _ _ rfl (((hK.set 0 _).set 1 _).set 2 _) Tryz.underlying163 rfl (by kernel_rfl)) rfl ⟨rfl, ((hE.setNew (Nat.le_refl _) _).setNew (Nat.le_refl _) _).setNew (Nat.le_refl _) _⟩
set_option maxRecDepth 100000 in
set_option maxHeartbeats 1000000 in
theorem number_nought (s : ByteArray) (w : World) (hs : s.size ≤ 100000) (hf : digs s.data.toList = true) (h1 : 1 < s.size) (h0 : s.data.toList.head? = some 48) :
  Calls Tryz.prog 217 #[.string s] w fun e w' => e = .returned (.tuple #[tokV 0 ⟨#[]⟩ 0, .int .i64 2]) ∧ Ext w w' := by
 have c1 := fun w => Tryz.strings_Trim_digits s w (by omega)
 rw [(trim_digits _).2 hf] at c1; have C1 := Z_ c1
 have hz : ((s[0].toNat : Int) == 48) = true := by
  have : s.data.toList[0]? = some 48 := by rw [← List.head?_eq_getElem?]; exact h0
  rw [List.getElem?_eq_getElem (by simpa using (show 0 < s.data.size from by have e : s.data.size = s.size := rfl; omega))] at this; have e : s[0] = 48 := Option.some.inj this; rw [e]; rfl
 clear c1 hf h0; go_enter Tryz.func217, Tryz.ntmps217
 go_wp2_with (go_at_call 250; refine (C1.out _).mono ?_; rintro e w' ⟨rfl, hB⟩; have hE := ((Chg.refl (fun _ => False) w).alloc _).ext (Below.toExt hB); have hK := (Blk.made _ _ _).ext (Below.toExt hB); have hKc := hK.cell; have hKf := hK.frozen)
 exact bodyPost_ret (results_cell2 rfl _ _ rfl (((hK.set 0 _).set 1 _).set 2 _) Tryz.underlying163 rfl (by kernel_rfl)) rfl ⟨rfl, ((hE.setNew (Nat.le_refl _) _).setNew (Nat.le_refl _) _).setNew (Nat.le_refl _) _⟩
set_option maxRecDepth 100000 in
set_option maxHeartbeats 1000000 in
theorem number_range (s : ByteArray) (w : World) (hs : s.size ≤ 100000) (hf : digs s.data.toList = true) (hn : s.data.toList ≠ []) (hz : ∀ _ : 1 < s.size, ((s[0]!.toNat : Int) == 48) = false) (hl : ¬ decFrom 0 s.data.toList < 9223372036854775808) (hv : ErrVar w) :
  Calls Tryz.prog 217 #[.string s] w fun e w' => e = .returned (.tuple #[tokV 0 ⟨#[]⟩ 0, .int .i64 6]) ∧ Ext w w' := by
 have c1 := fun w => Tryz.strings_Trim_digits s w (by omega)
 rw [(trim_digits _).2 hf] at c1; have C1 := Z_ c1; have C2 := Z_ (parse_range s hs hf hn hl); clear c1 hf hn hl; by_cases h1 : 1 < s.size
 ·have hz := hz h1
  rw [getElem!_pos s 0 (by omega)] at hz; go_enter Tryz.func217, Tryz.ntmps217
  go_wp2_with (first | (go_at_call 250; refine (C1.out _).mono ?_; rintro e w' ⟨rfl, hB⟩; have hE := ((Chg.refl (fun _ => False) w).alloc _).ext (Below.toExt hB); have hK := (Blk.made _ _ _).ext (Below.toExt hB)) | (go_at_call 251; refine (C2.out _ (hv.ext hE)).mono ?_; rintro e w2 ⟨v, T, p, rfl, hE2⟩; have hK2 := hK.ext hE2; have hKc := hK2.cell; have hKf := hK2.frozen))
  exact bodyPost_ret (results_cell2 rfl _ _ rfl (((hK2.set 0 _).set 1 _).set 2 _) Tryz.underlying163 rfl (by kernel_rfl)) rfl ⟨rfl, (((hE.ext hE2).setNew (Nat.le_refl _) _).setNew (Nat.le_refl _) _).setNew (Nat.le_refl _) _⟩
 ·clear hz
  go_enter Tryz.func217, Tryz.ntmps217
  go_wp2_with (first | (go_at_call 250; refine (C1.out _).mono ?_; rintro e w' ⟨rfl, hB⟩; have hE := ((Chg.refl (fun _ => False) w).alloc _).ext (Below.toExt hB); have hK := (Blk.made _ _ _).ext (Below.toExt hB)) | (go_at_call 251; refine (C2.out _ (hv.ext hE)).mono ?_; rintro e w2 ⟨v, T, p, rfl, hE2⟩; have hK2 := hK.ext hE2; have hKc := hK2.cell; have hKf := hK2.frozen))
  exact bodyPost_ret (results_cell2 rfl _ _ rfl (((hK2.set 0 _).set 1 _).set 2 _) Tryz.underlying163 rfl (by kernel_rfl)) rfl ⟨rfl, (((hE.ext hE2).setNew (Nat.le_refl _) _).setNew (Nat.le_refl _) _).setNew (Nat.le_refl _) _⟩
set_option maxRecDepth 100000 in
set_option maxHeartbeats 1000000 in
theorem number_good (s : ByteArray) (w : World) (hs : s.size ≤ 100000) (hf : digs s.data.toList = true) (hn : s.data.toList ≠ []) (hz : ∀ _ : 1 < s.size, ((s[0]!.toNat : Int) == 48) = false) (hl : decFrom 0 s.data.toList < 9223372036854775808) :
  Calls Tryz.prog 217 #[.string s] w fun e w' => e = .returned (.tuple #[tokV 2 s 0, .int .i64 0]) ∧ Ext w w' := by
 have c1 := fun w => Tryz.strings_Trim_digits s w (by omega)
 rw [(trim_digits _).2 hf] at c1; have C1 := Z_ c1; have C2 := Z_ (parse_ok s hs hf hn hl); clear c1 hf hn hl; by_cases h1 : 1 < s.size
 ·have hz := hz h1
  rw [getElem!_pos s 0 (by omega)] at hz; go_enter Tryz.func217, Tryz.ntmps217
  go_wp2_with (first | (go_at_call 250; refine (C1.out _).mono ?_; rintro e w' ⟨rfl, hB⟩; have hE := ((Chg.refl (fun _ => False) w).alloc _).ext (Below.toExt hB); have hK := (Blk.made _ _ _).ext (Below.toExt hB)) | (go_at_call 251; refine (C2.out _).mono ?_; rintro e w2 ⟨rfl, hE2⟩; have hK2 := hK.ext hE2; have hKc := hK2.cell; have hKf := hK2.frozen))
  exact bodyPost_ret (results_cell2 rfl _ _ rfl (((hK2.set 0 _).set 1 _).set 2 _) Tryz.underlying163 rfl (by kernel_rfl)) rfl ⟨rfl, (((hE.ext hE2).setNew (Nat.le_refl _) _).setNew (Nat.le_refl _) _).setNew (Nat.le_refl _) _⟩
 ·clear hz
  go_enter Tryz.func217, Tryz.ntmps217
  go_wp2_with (first | (go_at_call 250; refine (C1.out _).mono ?_; rintro e w' ⟨rfl, hB⟩; have hE := ((Chg.refl (fun _ => False) w).alloc _).ext (Below.toExt hB); have hK := (Blk.made _ _ _).ext (Below.toExt hB)) | (go_at_call 251; refine (C2.out _).mono ?_; rintro e w2 ⟨rfl, hE2⟩; have hK2 := hK.ext hE2; have hKc := hK2.cell; have hKf := hK2.frozen))
  exact bodyPost_ret (results_cell2 rfl _ _ rfl (((hK2.set 0 _).set 1 _).set 2 _) Tryz.underlying163 rfl (by kernel_rfl)) rfl ⟨rfl, (((hE.ext hE2).setNew (Nat.le_refl _) _).setNew (Nat.le_refl _) _).setNew (Nat.le_refl _) _⟩
theorem number_any (s : ByteArray) (w : World) (hs : s.size ≤ 100000) (h0 : 0 < s.size) (hv : ErrVar w) :
  Calls Tryz.prog 217 #[.string s] w fun e w' => e = .returned (.tuple #[if numeralF s.data.toList = 0 then tokV 2 s 0 else tokV 0 ⟨#[]⟩ 0, .int .i64 (numeralF s.data.toList)]) ∧ Ext w w' := by
 have hsz : s.data.toList.length = s.size := by rw [Array.length_toList]; rfl
 have hn : s.data.toList ≠ [] := by intro h; rw [h] at hsz; simp at hsz; omega
 have hh : s.data.toList.head? = some s[0] := by
  rw [List.head?_eq_getElem?, List.getElem?_eq_getElem (by omega)]; rfl
 cases hd : digs s.data.toList
 ·have e : numeralF s.data.toList = 2 := by rw [numeralF, if_pos hd]
  rw [e]; exact number_form s w hs hd
 ·by_cases hz : 1 < s.size ∧ s.data.toList.head? = some 48
  ·have e : numeralF s.data.toList = 2 := by rw [numeralF, if_neg (by simp [hd]), if_pos ⟨by omega, hz.2⟩]
   rw [e]; exact number_nought s w hs hd hz.1 hz.2
  ·have hz' : ∀ _ : 1 < s.size, ((s[0]!.toNat : Int) == 48) = false := by
    intro h1; rw [getElem!_pos s 0 (by omega), beq_eq_false_iff_ne]; intro e; exact hz ⟨h1, by rw [hh, (u8_int s[0] 48).1 e]⟩
   by_cases hl : decFrom 0 s.data.toList < 9223372036854775808
   ·have e : numeralF s.data.toList = 0 := by rw [numeralF, if_neg (by simp [hd]), if_neg (by rw [hsz]; exact hz), if_neg (by omega)]
    rw [e]; exact number_good s w hs hd hn hz' hl
   ·have e : numeralF s.data.toList = 6 := by rw [numeralF, if_neg (by simp [hd]), if_neg (by rw [hsz]; exact hz), if_pos (by omega)]
    rw [e]; exact number_range s w hs hd hn hz' hl hv
end lex
end Go.Proofs.YtpcihajmcejliabGreatDoor
namespace Go.Proofs.YtpcihajmcejliabGreatDoor
open Go.RowKit
def signsL : List UInt8 := [123, 125, 40, 41, 91, 93, 59, 44, 46, 61, 60, 43, 45, 42, 47, 37, 38, 124, 33]
def signN (l : List UInt8) : Nat := if Lib.hasPrefix l [61, 61] = true then 2 else match l with | [] => 0 | c :: _ => if signsL.contains c then 1 else 0
def tokF (l : List UInt8) : Int × Nat × Int :=
 match l with
 | [] => (0, 0, 2)
 | c :: _ =>
  if letterB c.toNat then (1, runN partB l, if 16 < runN partB l then 1 else 0)
  else if digitB c.toNat then (2, runN partB l, numeralF (l.take (runN partB l)))
  else (3, signN l, if signN l = 0 then 2 else 0)
namespace lex
theorem extract_list (s : ByteArray) (k n : Nat) : (s.extract k (k + n)).data.toList = (s.data.toList.drop k).take n := by
 simp [ByteArray.data_extract]
theorem extract_end (s : ByteArray) (k : Nat) : (s.extract k s.size).data.toList = s.data.toList.drop k := by
 have e : s.data.size = s.size := rfl; simp only [ByteArray.data_extract, Array.toList_extract, List.extract_eq_take_drop]; rw [List.take_of_length_le (by simp)]
def NextPost (p : Nat) (s : ByteArray) (k : Nat) (c f : Int) (w : World) (T : Int × Nat × Int) (e : Ending) (w' : World) : Prop :=
 e = .returned (.tuple #[if T.2.2 = 0 then tokV T.1 (s.extract k (k + T.2.1)) 0 else tokV 0 ⟨#[]⟩ 0, .int .i64 T.2.2]) ∧ ∃ k' : Nat, (T.2.2 = 0 → k' = k + T.2.1) ∧ k' ≤ s.size ∧ Scn w' p s k' c f ∧ Chg (fun i => i = p) w w'
theorem fin3 {w : World} {p b : Nat} {s : ByteArray} {k : Nat} {c f : Int} (h : Scn w p s k c f) (hp : p ≠ b) (x y z : Value) : Scn (((w.setCell ⟨b, 0, none⟩ x).setCell ⟨b, 1, none⟩ y).setCell ⟨b, 2, none⟩ z) p s k c f :=
 ((h.setOther hp _).setOther hp _).setOther hp _
theorem chg3 {S : Nat → Prop} {a w : World} {b : Nat} (h : Chg S a w) (hb : a.heap.size ≤ b) (x y z : Value) : Chg S a (((w.setCell ⟨b, 0, none⟩ x).setCell ⟨b, 1, none⟩ y).setCell ⟨b, 2, none⟩ z) :=
 ((h.setNew hb _).setNew hb _).setNew hb _
set_option maxRecDepth 100000 in
set_option maxHeartbeats 1000000 in
theorem next_letter (p : Nat) (s : ByteArray) (k : Nat) (c f : Int) (w : World) (h : Scn w p s k c f) (hk : k < s.size) (hs : s.size ≤ 100000) (hl : letterB s[k].toNat = true) :
  Calls Tryz.prog 147 #[.pointer (some ⟨p, 0, none⟩)] w (NextPost p s k c f w (tokF (s.data.toList.drop k))) := by
 generalize hT : tokF (s.data.toList.drop k) = T; rw [drop_cons s k hk] at hT; simp only [tokF, hl, if_true] at hT; rw [← drop_cons s k hk] at hT; have hp := h.lt; have hpn : p ≠ w.heap.size := by omega
 have c0 := h.cell 0; have c1 := h.cell 1; have f1 := h.frozen 1; simp only [List.getElem?_toArray, List.getElem?_cons_zero, List.getElem?_cons_succ] at c0 c1; have cc := letter_any (s[k].toNat : Int); rw [hl] at cc; have CC := Z_ cc; have hroom := runN_room partB s k (by omega); obtain ⟨n, hn⟩ : ∃ n, runN partB (s.data.toList.drop k) = n := ⟨_, rfl⟩; have C2 := Z_ (fun w' h' => run_part p s k c f w' h' (by omega) hs); rw [hn] at hT hroom C2; clear cc hl hn; by_cases h16 : 16 < n
 ·rw [if_pos h16] at hT
  have HT := Z_ hT; clear hT; go_enter Tryz.func147, Tryz.ntmps147
  go_wp2_with fail
  go_quiet (fail)
  go_wp2_with (first | (go_at_call 214; refine (CC.out _).mono ?_; rintro e w' ⟨rfl, rfl⟩) | (go_at_call 211; refine (C2.out _ ((h.alloc _).drewN _)).mono ?_; rintro e w' ⟨rfl, hS, hC⟩; have hK := ((Blk.made w _ _).drewN _).chg hC (fun e => hpn e.symm); have hKc := hK.cell; have hKf := hK.frozen))
  refine bodyPost_ret (results_cell2 rfl _ _ rfl (((hK.set 0 _).set 1 _).set 2 _) Tryz.underlying163 rfl (by kernel_rfl)) rfl ?_
  rw [← HT.out]; exact ⟨rfl, k + n, fun _ => rfl, hroom, fin3 hS hpn _ _ _, chg3 ((((Chg.refl _ w).alloc _).drewN _).then hC) (Nat.le_refl _) _ _ _⟩
 ·rw [if_neg h16] at hT
  have HT := Z_ hT; clear hT; go_enter Tryz.func147, Tryz.ntmps147
  go_wp2_with fail
  go_quiet (fail)
  go_wp2_with (first | (go_at_call 214; refine (CC.out _).mono ?_; rintro e w' ⟨rfl, rfl⟩) | (go_at_call 211; refine (C2.out _ ((h.alloc _).drewN _)).mono ?_; rintro e w' ⟨rfl, hS, hC⟩; have hK := ((Blk.made w _ _).drewN _).chg hC (fun e => hpn e.symm); have hKc := hK.cell; have hKf := hK.frozen))
  refine bodyPost_ret (results_cell2 rfl _ _ rfl (((hK.set 0 _).set 1 _).set 2 _) Tryz.underlying163 rfl (by kernel_rfl)) rfl ?_
  rw [← HT.out]; exact ⟨rfl, k + n, fun _ => rfl, hroom, fin3 hS hpn _ _ _, chg3 ((((Chg.refl _ w).alloc _).drewN _).then hC) (Nat.le_refl _) _ _ _⟩
set_option maxRecDepth 100000 in
set_option maxHeartbeats 1000000 in
theorem next_digit (p : Nat) (s : ByteArray) (k : Nat) (c f : Int) (w : World) (h : Scn w p s k c f) (hk : k < s.size) (hs : s.size ≤ 100000) (hl : letterB s[k].toNat = false) (hd : digitB s[k].toNat = true) (hv : ErrVar w) (hvp : p ≠ 2) :
  Calls Tryz.prog 147 #[.pointer (some ⟨p, 0, none⟩)] w (NextPost p s k c f w (tokF (s.data.toList.drop k))) := by
 generalize hT : tokF (s.data.toList.drop k) = T; rw [drop_cons s k hk] at hT; simp only [tokF, hl, hd, Bool.false_eq_true, if_false, if_true] at hT; rw [← drop_cons s k hk] at hT; have hp := h.lt; have hpn : p ≠ w.heap.size := by omega
 have c0 := h.cell 0; have c1 := h.cell 1; have f1 := h.frozen 1; simp only [List.getElem?_toArray, List.getElem?_cons_zero, List.getElem?_cons_succ] at c0 c1; have cc := letter_any (s[k].toNat : Int); rw [hl] at cc; have CC := Z_ cc; have cd := digit_any (s[k].toNat : Int); rw [hd] at cd; have CD := Z_ cd; have hroom := runN_room partB s k (by omega)
 have hpos : 0 < runN partB (s.data.toList.drop k) := by
  rw [runN_step partB s k hk (by unfold partB; rw [hd]; simp)]; omega
 obtain ⟨n, hn⟩ : ∃ n, runN partB (s.data.toList.drop k) = n := ⟨_, rfl⟩; have C2 := Z_ (fun w' h' => run_part p s k c f w' h' (by omega) hs); rw [hn] at hT hroom C2 hpos; have c3 := fun w' hv' => number_any (s.extract k (k + n)) w' (by simp; omega) (by simp; omega) hv'
 rw [extract_list] at c3; clear cc cd hl hd hn; by_cases h0 : numeralF ((s.data.toList.drop k).take n) = 0
 ·rw [if_pos h0, h0] at c3
  rw [h0] at hT; have C3 := Z_ c3; have HT := Z_ hT; clear hT c3 h0; go_enter Tryz.func147, Tryz.ntmps147
  go_wp2_with fail
  go_quiet (fail)
  go_wp2_with (first | (go_at_call 214; refine (CC.out _).mono ?_; rintro e w' ⟨rfl, rfl⟩) | (go_at_call 216; refine (CD.out _).mono ?_; rintro e w' ⟨rfl, rfl⟩) | (go_at_call 211; refine (C2.out _ ((h.alloc _).drewN _)).mono ?_; rintro e w' ⟨rfl, hS, hC⟩; have hK := ((Blk.made w _ _).drewN _).chg hC (fun e => hpn e.symm)) | (go_at_call 217; refine (C3.out _ ((((hv.ext ((Chg.refl _ w).alloc _)).ext ((Chg.refl _ _).drewN _)).chg hC (fun e => hvp e.symm)))).mono ?_; rintro e w3 ⟨rfl, hE⟩; have hK2 := hK.ext hE; have hS2 := hS.ext hE; have hKc := hK2.cell; have hKf := hK2.frozen; unfold tokV))
  refine bodyPost_ret (results_cell2 rfl _ _ rfl (((hK2.set 0 _).set 1 _).set 2 _) Tryz.underlying163 rfl (by kernel_rfl)) rfl ?_
  rw [← HT.out]; exact ⟨rfl, k + n, fun _ => rfl, hroom, fin3 hS2 hpn _ _ _, chg3 (((((Chg.refl _ w).alloc _).drewN _).then hC).ext hE) (Nat.le_refl _) _ _ _⟩
 ·obtain ⟨q, hq⟩ : ∃ q, numeralF ((s.data.toList.drop k).take n) = q := ⟨_, rfl⟩
  rw [if_neg h0] at c3; rw [hq] at hT c3 h0; have C3 := Z_ c3; have HT := Z_ hT; have H0 := Z_ h0; clear hT c3 h0 hq; go_enter Tryz.func147, Tryz.ntmps147
  go_wp2_with fail
  go_quiet (fail)
  go_wp2_with (first | (go_at_call 214; refine (CC.out _).mono ?_; rintro e w' ⟨rfl, rfl⟩) | (go_at_call 216; refine (CD.out _).mono ?_; rintro e w' ⟨rfl, rfl⟩) | (go_at_call 211; refine (C2.out _ ((h.alloc _).drewN _)).mono ?_; rintro e w' ⟨rfl, hS, hC⟩; have hK := ((Blk.made w _ _).drewN _).chg hC (fun e => hpn e.symm)) | (go_at_call 217; refine (C3.out _ ((((hv.ext ((Chg.refl _ w).alloc _)).ext ((Chg.refl _ _).drewN _)).chg hC (fun e => hvp e.symm)))).mono ?_; rintro e w3 ⟨rfl, hE⟩; have hK2 := hK.ext hE; have hS2 := hS.ext hE; have hKc := hK2.cell; have hKf := hK2.frozen; unfold tokV))
  refine bodyPost_ret (results_cell2 rfl _ _ rfl (((hK2.set 0 _).set 1 _).set 2 _) Tryz.underlying163 rfl (by kernel_rfl)) rfl ?_
  rw [← HT.out]; refine ⟨?_, k + n, fun _ => rfl, hroom, fin3 hS2 hpn _ _ _, chg3 (((((Chg.refl _ w).alloc _).drewN _).then hC).ext hE) (Nat.le_refl _) _ _ _⟩
  rw [if_neg H0.out]; rfl
theorem contains_index (c : UInt8) (l : List UInt8) : 0 ≤ Lib.indexByte l c ↔ l.contains c = true := by
 have key : ∀ l : List UInt8, -1 ≤ Lib.indexByte l c ∧ (0 ≤ Lib.indexByte l c ↔ l.contains c = true) := by
  intro l; induction l with
  | nil => simp [Lib.indexByte]
  | cons b r ih =>
   obtain ⟨h1, h2⟩ := ih; simp only [Lib.indexByte, List.contains_cons, Bool.or_eq_true, beq_iff_eq]; by_cases hb : b = c
   ·subst hb; simp
   ·simp only [hb, Ne.symm hb, if_false, false_or, ← h2]
    by_cases hm : Lib.indexByte r c = -1
    ·simp [hm]
    ·simp only [hm, if_false]; omega
 exact (key l).2
theorem encode_ascii (c : UInt8) (h : c.toNat < 128) : Utf8.encode (c.toNat : Int) = ⟨#[c]⟩ := by
 have hv : Utf8.valid (c.toNat : Int) = true := by simp [Utf8.valid]; omega
 simp only [Utf8.encode, hv, if_true, Int.toNat_natCast]; rw [if_pos h]; simp
theorem wrap32_byte (c : UInt8) : wrap32 (c.toNat : Int) = c.toNat := by
 have := c.toNat_lt; unfold wrap32; omega
theorem one_byte (s : ByteArray) (k : Nat) (hk : k < s.size) : (⟨#[s[k]]⟩ : ByteArray) = s.extract k (k + 1) := by
 apply ByteArray.ext
 apply Array.ext'
 rw [extract_list, drop_cons s k hk]; rfl
theorem two_bytes (s : ByteArray) (k : Nat) (h : Lib.hasPrefix (s.data.toList.drop k) [61, 61] = true) : (⟨#[61, 61]⟩ : ByteArray) = s.extract k (k + 2) ∧ k + 2 ≤ s.size := by
 have h' : [61, 61] <+: s.data.toList.drop k := List.isPrefixOf_iff_prefix.1 h; obtain ⟨r, hr⟩ := h'; have hl : (s.data.toList.drop k).length = 2 + r.length := by rw [← hr]; simp; omega
 have e : s.data.size = s.size := rfl; simp only [List.length_drop, Array.length_toList] at hl; refine ⟨?_, by omega⟩
 apply ByteArray.ext
 apply Array.ext'
 rw [extract_list, ← hr]; rfl
theorem two_first (l : List UInt8) (h : Lib.hasPrefix l [61, 61] = true) : ∃ r, l = 61 :: r := by
 obtain ⟨r, hr⟩ := List.isPrefixOf_iff_prefix.1 h; exact ⟨_, hr.symm⟩
theorem sign_ascii (c : UInt8) (h : signsL.contains c = true) : c.toNat < 128 := by
 have key : ∀ c ∈ signsL, c.toNat < 128 := by decide
 exact key c (by simpa using h)
set_option maxRecDepth 100000 in
set_option maxHeartbeats 1000000 in
theorem next_sign (p : Nat) (s : ByteArray) (k : Nat) (c f : Int) (w : World) (h : Scn w p s k c f) (hk : k < s.size) (hs : s.size ≤ 100000) (hl : letterB s[k].toNat = false) (hd : digitB s[k].toNat = false) :
  Calls Tryz.prog 147 #[.pointer (some ⟨p, 0, none⟩)] w (NextPost p s k c f w (tokF (s.data.toList.drop k))) := by
 generalize hT : tokF (s.data.toList.drop k) = T; rw [drop_cons s k hk] at hT; simp only [tokF, hl, hd, Bool.false_eq_true, if_false] at hT; rw [← drop_cons s k hk] at hT; have hp := h.lt; have hpn : p ≠ w.heap.size := by omega
 have c0 := h.cell 0; have c1 := h.cell 1; have f1 := h.frozen 1; simp only [List.getElem?_toArray, List.getElem?_cons_zero, List.getElem?_cons_succ] at c0 c1; have cc := letter_any (s[k].toNat : Int); rw [hl] at cc; have CC := Z_ cc; have cd := digit_any (s[k].toNat : Int); rw [hd] at cd; have CD := Z_ cd; have ci := fun w => (Tryz.strings_IndexByte ⟨#[123, 125, 40, 41, 91, 93, 59, 44, 46, 61, 60, 43, 45, 42, 47, 37, 38, 124, 33]⟩ (s[k].toNat : Int) w)
 have cx : (s[k].toNat : Int).toNat.toUInt8 = s[k] := by simp
 rw [cx] at ci; have hcon := contains_index s[k] signsL; obtain ⟨I, hI⟩ : ∃ I, Lib.indexByte signsL s[k] = I := ⟨_, rfl⟩; have ci : ∀ w, Calls Tryz.prog 218 #[.string ⟨#[123, 125, 40, 41, 91, 93, 59, 44, 46, 61, 60, 43, 45, 42, 47, 37, 38, 124, 33]⟩, .int .u8 s[k].toNat] w fun e w' => e = .returned (.int .i64 I) ∧ w' = w := by rw [← hI]; exact ci
 have CI := Z_ ci; rw [hI] at hcon; clear cc cd hl hd ci cx hI; have cp := fun w => Tryz.strings_HasPrefix (s.extract k s.size) ⟨#[61, 61]⟩ w
 rw [extract_end] at cp; obtain ⟨B, hB⟩ : ∃ B, Lib.hasPrefix (s.data.toList.drop k) [61, 61] = B := ⟨_, rfl⟩; have cp : ∀ w, Calls Tryz.prog 219 #[.string (s.extract k s.size), .string ⟨#[61, 61]⟩] w fun e w' => e = .returned (.bool B) ∧ w' = w := by rw [← hB]; exact cp
 have CP := Z_ cp; clear cp; cases hcn : signsL.contains s[k]
 ·rw [hcn] at hcon
  have hI0 : I < 0 := by
   rcases Int.lt_or_le I 0 with h | h
   ·exact h
   ·exact absurd (hcon.1 h) (by simp)
  have hB' : B = false := by
   cases B
   ·rfl
   ·obtain ⟨r, hr⟩ := two_first _ hB
    rw [drop_cons s k hk] at hr; injection hr with e1 _
    rw [e1] at hcn; exact absurd hcn (by decide)
  have hsn : signN (s.data.toList.drop k) = 0 := by
   unfold signN; rw [hB, hB', drop_cons s k hk]; simp only [Bool.false_eq_true, if_false, hcn]
  rw [hsn] at hT; have HT := Z_ hT; clear hT hsn hB' hB hcn hcon CP; go_enter Tryz.func147, Tryz.ntmps147
  go_wp2_with fail
  go_quiet (fail)
  go_wp2_with (first | (go_at_call 214; refine (CC.out _).mono ?_; rintro e w' ⟨rfl, rfl⟩) | (go_at_call 216; refine (CD.out _).mono ?_; rintro e w' ⟨rfl, rfl⟩) | (go_at_call 218; refine (CI.out _).mono ?_; rintro e w' ⟨rfl, rfl⟩))
  refine bodyPost_ret (results_cell2 rfl _ _ rfl (((((Blk.made w _ _).drewN _).set 0 _).set 1 _).set 2 _) Tryz.underlying163 rfl (by kernel_rfl)) rfl ?_
  rw [← HT.out]; exact ⟨rfl, k, fun h => by simp at h, by omega, fin3 ((h.alloc _).drewN _) hpn _ _ _, chg3 (((Chg.refl _ w).alloc _).drewN _) (Nat.le_refl _) _ _ _⟩
 ·rw [hcn] at hcon
  have hkI : (k : Int) ≤ (s.size : Int) := by omega
  have hI0 : 0 ≤ I := hcon.2 rfl; have hasc := sign_ascii _ hcn; cases B
  ·have hsn : signN (s.data.toList.drop k) = 1 := by
    unfold signN; rw [hB, drop_cons s k hk]; simp only [Bool.false_eq_true, if_false, hcn, if_true]
   rw [hsn] at hT; have HT := Z_ hT; have HE := Z_ (encode_ascii _ hasc); have H1 := Z_ (one_byte s k hk); clear hT hsn hB hcn hcon hasc; go_enter Tryz.func147, Tryz.ntmps147
   go_wp2_with fail
   go_quiet (fail)
   generalize s[k] = cb at *; have he := HE.out; go_wp2_with (first | (go_at_call 214; refine (CC.out _).mono ?_; rintro e w' ⟨rfl, rfl⟩) | (go_at_call 216; refine (CD.out _).mono ?_; rintro e w' ⟨rfl, rfl⟩) | (go_at_call 218; refine (CI.out _).mono ?_; rintro e w' ⟨rfl, rfl⟩))
   go_quiet ((go_at_call 219; exact quiet_add_right CP.out _ _ _))
   go_wp2_with fail
   rw [wrap32_byte, HE.out, H1.out]; refine bodyPost_ret (results_cell2 rfl _ _ rfl ((((((Blk.made w _ _).drewN _).setOther (fun e => hpn e.symm) _).set 0 _).set 1 _).set 2 _) Tryz.underlying163 rfl (by kernel_rfl)) rfl ?_
   rw [← HT.out]; exact ⟨rfl, k + 1, fun _ => rfl, by omega, fin3 (Blk.set ((h.alloc _).drewN _) 1 _) hpn _ _ _, chg3 ((((Chg.refl (fun i => i = p) w).alloc _).drewN _).setCell (fun _ => rfl) _) (Nat.le_refl _) _ _ _⟩
  ·have hsn : signN (s.data.toList.drop k) = 2 := by
    unfold signN; rw [hB, if_pos rfl]
   obtain ⟨h2, hk2⟩ := two_bytes s k hB; have H2 := Z_ h2; rw [hsn] at hT; have HT := Z_ hT; clear hT hsn hB hcn hcon hasc h2; go_enter Tryz.func147, Tryz.ntmps147
   go_wp2_with fail
   go_quiet (fail)
   generalize s[k] = cb at *; go_wp2_with (first | (go_at_call 214; refine (CC.out _).mono ?_; rintro e w' ⟨rfl, rfl⟩) | (go_at_call 216; refine (CD.out _).mono ?_; rintro e w' ⟨rfl, rfl⟩) | (go_at_call 218; refine (CI.out _).mono ?_; rintro e w' ⟨rfl, rfl⟩))
   go_quiet ((go_at_call 219; exact quiet_add_right CP.out _ _ _))
   go_wp2_with fail
   rw [H2.out]; refine bodyPost_ret (results_cell2 rfl _ _ rfl ((((((Blk.made w _ _).drewN _).setOther (fun e => hpn e.symm) _).set 0 _).set 1 _).set 2 _) Tryz.underlying163 rfl (by kernel_rfl)) rfl ?_
   rw [← HT.out]; exact ⟨rfl, k + 2, fun _ => rfl, hk2, fin3 (Blk.set ((h.alloc _).drewN _) 1 _) hpn _ _ _, chg3 ((((Chg.refl (fun i => i = p) w).alloc _).drewN _).setCell (fun _ => rfl) _) (Nat.le_refl _) _ _ _⟩
theorem next_any (p : Nat) (s : ByteArray) (k : Nat) (c f : Int) (w : World) (h : Scn w p s k c f) (hk : k < s.size) (hs : s.size ≤ 100000) (hv : ErrVar w) (hvp : p ≠ 2) :
  Calls Tryz.prog 147 #[.pointer (some ⟨p, 0, none⟩)] w (NextPost p s k c f w (tokF (s.data.toList.drop k))) := by
 cases hl : letterB s[k].toNat
 ·cases hd : digitB s[k].toNat
  ·exact next_sign p s k c f w h hk hs hl hd
  ·exact next_digit p s k c f w h hk hs hl hd hv hvp
 ·exact next_letter p s k c f w h hk hs hl
end lex
end Go.Proofs.YtpcihajmcejliabGreatDoor
namespace Go.Proofs.YtpcihajmcejliabGreatDoor
open Go.RowKit
abbrev Tok := Int × Nat × Nat
def Tok.cells (s : ByteArray) (t : Tok) : List Value := [.int .i64 t.1, .string (s.extract t.2.1 (t.2.1 + t.2.2)), .int .i64 t.2.1]
def tokCells (s : ByteArray) (l : List Tok) : List Value := l.flatMap (Tok.cells s)
def scanTok : Nat → List UInt8 → Nat → List Tok → List Tok × Int × Nat
 | 0, _, _, _ => ([], 0, 0)
 | f + 1, l, p, acc =>
  if p < l.length then
   let T := tokF (l.drop p)
   if T.2.2 = 0 then scanTok f l (p + T.2.1 + skipB false (l.drop (p + T.2.1))) (acc ++ [(T.1, p, T.2.1)]) else ([], T.2.2, p)
  else (acc, 0, 0)
def scanF (l : List UInt8) : List Tok × Int × Nat := if 3000 < l.length then ([], 1, 0) else scanTok (l.length + 1) l (skipB false l) []
theorem tokCells_snoc (s : ByteArray) (l : List Tok) (t : Tok) : tokCells s (l ++ [t]) = tokCells s l ++ Tok.cells s t := by simp [tokCells]
theorem tok_pos (l : List UInt8) (h : (tokF l).2.2 = 0) : 1 ≤ (tokF l).2.1 := by
 cases l with
 | nil => simp [tokF] at h
 | cons c r =>
  simp only [tokF] at h ⊢
  have hr : partB c.toNat = true → 1 ≤ runN partB (c :: r) := by
   intro hb; simp [runN, hb]
  split
  ·rename_i hl; exact hr (by simp [partB, hl])
  ·rename_i hl
   rw [if_neg hl] at h; split
   ·rename_i hd; exact hr (by simp [partB, hd])
   ·rename_i hd
    rw [if_neg hd] at h; by_cases hz : signN (c :: r) = 0
    ·simp [hz] at h
    ·simp only; omega
namespace lex
set_option maxRecDepth 100000 in
set_option maxHeartbeats 1000000 in
theorem scan_long (s : ByteArray) (w : World) (h : 3000 < s.size) (hs : s.size ≤ 9223372036854775807) :
  Calls Tryz.prog 83 #[.string s] w fun e w' => e = .returned (.tuple #[.slice none 0 0, .agg #[.int .i64 1, .int .i64 0]]) ∧ Ext w w' := by
 go_enter Tryz.func83, Tryz.ntmps83
 go_wp2_with fail
 exact bodyPost_ret (results_2cell rfl _ _ rfl (Blk.made w _ _) Tryz.underlying68 rfl (by kernel_rfl)) rfl ⟨rfl, (Chg.refl _ w).alloc _⟩
set_option maxRecDepth 100000 in
set_option maxHeartbeats 2000000 in
theorem scan_any (s : ByteArray) (w : World) (h : s.size ≤ 3000) (hv : ErrVar w) (T : List Tok × Int × Nat) (hT : Hid (scanF s.data.toList = T)) :
  Calls Tryz.prog 83 #[.string s] w fun e w' => ∃ v, e = .returned (.tuple #[v, .agg #[.int .i64 T.2.1, .int .i64 T.2.2]]) ∧ w'.ownsRow (w.heap.size + 2) 163 3 v T.1.length (tokCells s T.1) ∧ Ext w w' := by
 have hlen : s.data.toList.length = s.size := by rw [Array.length_toList]; rfl
 go_enter Tryz.func83, Tryz.ntmps83
 go_wp2_with fail
 refine (blanks_any (w.heap.size + 1) s 0 0 0 _ (Blk.made2 w _ _ _) (by omega) (by omega)).mono ?_
 rintro e w1 ⟨rfl, hS, hC⟩; have hR : Blk w1 w.heap.size #[.int .i64 0, .int .i64 0] 68 := ((Blk.made w _ _).alloc _).chg hC (by omega); have hE : Ext w w1 := (((Chg.refl _ w).alloc _).alloc _).trans hC (fun i hi e => by omega); have hv1 : ErrVar w1 := hv.ext hE; have hgv := hv.lt; have hg0 : w.heap.size + 2 ≤ w1.heap.size := by have := hC.size; simp at this; omega
 rw [Nat.zero_add] at hS; have hk0 : skipB false s.data.toList ≤ s.size := by have := skip_le s.data.toList false; omega
 have hT0 : scanTok (s.data.toList.length + 1) s.data.toList (skipB false s.data.toList) [] = T := by
  have := hT.out; rwa [scanF, if_neg (by omega)] at this
 simp only [List.drop_zero] at hS; generalize skipB false s.data.toList = k0 at *; have HT0 := Z_ hT0; clear hT hT0 hC; generalize hP : w.heap.size + 1 = P at *; generalize hQ : w.heap.size = R at *; have HP := Z_ hP; have HQ := Z_ hQ; clear hP hQ; go_wp2_with fail
 have hb0 : w1.ownsRow (R + 2) 163 3 (.slice none 0 0) 0 [] := World.ownsRow_nil _ _ _ _; go_loopw [5] (fun v wr => ∃ (k f : Nat) (acc : List Tok), k ≤ s.size ∧ s.size < f + k ∧ Scn wr P s k 0 0 ∧ Blk wr R #[.int .i64 0, .int .i64 0] 68 ∧ wr.ownsRow (R + 2) 163 3 v acc.length (tokCells s acc) ∧ acc.length ≤ k ∧ Ext w wr ∧ ErrVar wr ∧ R + 2 ≤ wr.heap.size ∧ Hid (scanTok f s.data.toList k acc = T)) (fun _ wr => s.size - at1 wr P)
 case atStart => exact ⟨k0, s.data.toList.length + 1, [], hk0, by omega, hS, hR, hb0, Nat.zero_le _, hE, hv1, hg0, HT0.out⟩
 case round =>
  obtain ⟨k, f, acc, hk, hf, hS, hR, hown, hacc, hE, hv1, hg0, hrel⟩ := hrel; have hm := Scn.at1 hS; have HM := Z_ hm; have hpP : P < wr.heap.size := hS.lt; have hPR : P ≠ R := by have := HP.out; have := HQ.out; omega
  clear hm; obtain ⟨f, rfl⟩ : ∃ f', f = f' + 1 := ⟨f - 1, by omega⟩; have c0 := hS.cell 0; have c1 := hS.cell 1; simp only [List.getElem?_toArray, List.getElem?_cons_zero, List.getElem?_cons_succ] at c0 c1; by_cases hlt : k < s.size
  ·have hd : decide ((k : Int) < (s.size : Int)) = true := by simp; omega
   have hr := hrel.out; rw [scanTok, if_pos (by omega)] at hr; have hpos := tok_pos (s.data.toList.drop k); have HN := Z_ (fun w' h' hv' => next_any P s k 0 0 w' h' hlt (by omega) hv' (by have := HP.out; have := HQ.out; omega)); generalize tokF (s.data.toList.drop k) = N at *; obtain ⟨kd, n, e⟩ := N; by_cases he : e = 0
   ·subst he
    simp only [if_true] at hr hpos; have hn : 1 ≤ n := hpos trivial; have HR := Z_ hr; clear hr hpos; go_wp2_with fail
    refine (HN.out _ hS hv1).mono ?_
    rintro e w' ⟨rfl, k', hk', hk2, hS', hC'⟩; (try simp only [if_true, tokV])
    have hown' := ownsRow_chg hown hC' (fun i hi e => by subst e; have := HP.out; omega); go_upto_region 14 with (fail)
    iterate 10 (go_step)
    refine wpList_append_blk rfl (.tmp 54) (.tmp 56) 147 rfl (R + 2) 163 (.agg #[.int .i64 0, .string ⟨#[]⟩, .int .i64 0]) 3 32 Tryz.underlying147 (by kernel_rfl) rfl (by omega) _ acc.length (tokCells s acc) rfl (ownsRow_ext hown' (((Chg.refl _ _).alloc _).alloc _)) _ 1 1 163 [.int .i64 kd, .string (s.extract k (k + n)), .int .i64 k] rfl (Blk.made2 _ _ _ _) rfl ?c1 ?c2 ?c3 ?c4 ?_
    case c1 => intro u hu; simp at hu; rcases hu with rfl | rfl | rfl <;> rfl
    case c2 => unfold maxLen; omega
    case c3 => omega
    case c4 => have := hC'.size; simp; omega
    intro v' w2 hown2 hC2 _; have hPb : P < R + 2 := by have := HP.out; omega
    have hS2 : Scn w2 P s k' 0 0 := ((hS'.alloc _).alloc _).chg hC2 (by omega); have hC3 : Chg (fun i => i = P ∨ R + 2 ≤ i) wr w2 := (((hC'.weak (fun _ _ h => .inl h)).alloc _).alloc _).trans hC2 (fun _ _ h => .inr h); have hR2 : Blk w2 R #[.int .i64 0, .int .i64 0] 68 := hR.chg hC3 (by omega); have hE2 : Ext w w2 := hE.trans hC3 (fun i hi h => by have := HQ.out; have := HP.out; omega); have hv2 : ErrVar w2 := hv1.chg hC3 (by have := HP.out; omega); have hg2 : R + 2 ≤ w2.heap.size := Nat.le_trans hg0 hC3.size; obtain rfl : k' = k + n := hk' rfl; clear hS' hC' hown' hC2 hC3 hk'; go_wp2_with fail
    refine (blanks_any P s (k + n) 0 0 _ hS2 hk2 (by omega)).mono ?_
    rintro e w3 ⟨rfl, hS3, hC3⟩; go_wp2_with fail
    go_roundw
    case rel =>
     have hle := skip_le (s.data.toList.drop (k + n)) false; simp only [List.length_drop] at hle; refine ⟨_, f, acc ++ [(kd, k, n)], by omega, by omega, hS3, hR2.chg hC3 (by omega), ?_, by simp; omega, hE2.trans hC3 (fun i hi h => by have := HQ.out; have := HP.out; omega), hv2.chg hC3 (by have := HP.out; omega), Nat.le_trans hg2 hC3.size, HR.out⟩
     have := ownsRow_chg hown2 hC3 (fun i hi e => by omega); rw [tokCells_snoc, List.length_append]; exact this
    case measure =>
     rw [HM.out, Scn.at1 hS3]; omega
   ·have hr2 : ([], e, k) = T := by rw [← hr]; simp only [if_neg he]
    have HR := Z_ hr2; have hne : (e != 0) = true := by rw [bne_iff_ne]; exact he
    have HE := Z_ he; clear hr hpos hr2 he; go_wp2_with fail
    refine (HN.out _ hS hv1).mono ?_
    rintro e w' ⟨rfl, k', hk', hk2, hS', hC'⟩; (try simp only [if_neg HE.out, tokV])
    have hS3 := (hS'.alloc (.cells #[.int .i64 0, .string ⟨#[]⟩, .int .i64 0] 163)); have hf2 := hS3.frozen 2; have hf3 := hS3.frozen 3; have hc2 := hS3.cell 2; have hc3 := hS3.cell 3; go_wp2_with fail
    have hS4 : Blk (((w'.alloc (.cells #[.int .i64 0, .string ⟨#[]⟩, .int .i64 0] 163)).setCell ⟨P, 2, none⟩ (.int .i64 e)).setCell ⟨P, 3, none⟩ (.int .i64 k)) P #[.string s, .int .i64 k', .int .i64 e, .int .i64 k] 237 := (hS3.set 2 _).set 3 _; have hC4 : Chg (fun i => i = P) wr (((w'.alloc (.cells #[.int .i64 0, .string ⟨#[]⟩, .int .i64 0] 163)).setCell ⟨P, 2, none⟩ (.int .i64 e)).setCell ⟨P, 3, none⟩ (.int .i64 k)) := ((hC'.alloc _).setCell (fun _ => rfl) _).setCell (fun _ => rfl) _; clear hc2 hc3 hf2 hf3 hS3; generalize ((w'.alloc (.cells #[.int .i64 0, .string ⟨#[]⟩, .int .i64 0] 163)).setCell ⟨P, 2, none⟩ (.int .i64 e)).setCell ⟨P, 3, none⟩ (.int .i64 k) = w4 at *; have hR4 : Blk w4 R #[.int .i64 0, .int .i64 0] 68 := hR.chg hC4 (by omega); have hc2 : w4.cell? ⟨P, 2, none⟩ = some (.int .i64 e) := hS4.cell 2; have hc3 : w4.cell? ⟨P, 3, none⟩ = some (.int .i64 k) := hS4.cell 3
    have hr0 : w4.cell? ⟨R, 0, none⟩ = some (.int .i64 0) := hR4.cell 0; have hr1 : w4.cell? ⟨R, 1, none⟩ = some (.int .i64 0) := hR4.cell 1; have hrf := hR4.frozen; go_still_tail 5, (by kernel_rfl)
    go_wp2_with fail
    refine bodyPost_ret (results_2cell rfl _ _ rfl ((hR4.drew.set 0 _).set 1 _) Tryz.underlying68 rfl (by kernel_rfl)) rfl ?_
    rw [← HR.out]; exact ⟨_, rfl, World.ownsRow_nil _ _ _ _, ((hE.trans hC4 (fun i hi h => by have := HQ.out; have := HP.out; omega)).drew.setNew (Nat.le_of_eq HQ.out) _).setNew (Nat.le_of_eq HQ.out) _⟩
  ·have hd : decide ((k : Int) < (s.size : Int)) = false := by simp; omega
   have hr := hrel.out; rw [scanTok, if_neg (by omega)] at hr; have HR := Z_ hr; clear hr; have hc2 : wr.cell? ⟨P, 2, none⟩ = some (.int .i64 0) := hS.cell 2; have hc3 : wr.cell? ⟨P, 3, none⟩ = some (.int .i64 0) := hS.cell 3; have hr0 : wr.cell? ⟨R, 0, none⟩ = some (.int .i64 0) := hR.cell 0; have hr1 : wr.cell? ⟨R, 1, none⟩ = some (.int .i64 0) := hR.cell 1; have hrf := hR.frozen; go_wp2_with fail
   go_still_tail 6, (by kernel_rfl)
   go_wp2_with fail
   refine bodyPost_ret (results_2cell rfl _ _ rfl ((hR.drew.set 0 _).set 1 _) Tryz.underlying68 rfl (by kernel_rfl)) rfl ?_
   rw [← HR.out]; refine ⟨_, rfl, ?_, (hE.drew.setNew (Nat.le_of_eq HQ.out) _).setNew (Nat.le_of_eq HQ.out) _⟩
   rw [HQ.out]; exact ownsRow_chg hown (((Chg.refl (fun i => i = R) _).drew.setCell (fun _ => rfl) _).setCell (fun _ => rfl) _) (fun i hi e => by omega)
end lex
end Go.Proofs.YtpcihajmcejliabGreatDoor
namespace Go.Proofs.YtpcihajmcejliabGreatDoor
open Go.RowKit
namespace lexTells
theorem scan_all (s : ByteArray) (w : World) (hs : s.size ≤ 9223372036854775807) (hv : ErrVar w) (T : List Tok × Int × Nat) (hT : Hid (scanF s.data.toList = T)) :
  Calls Tryz.prog 83 #[.string s] w fun e w' => ∃ v, e = .returned (.tuple #[v, .agg #[.int .i64 T.2.1, .int .i64 T.2.2]]) ∧ w'.ownsRow (w.heap.size + 2) 163 3 v T.1.length (tokCells s T.1) ∧ Ext w w' := by
 by_cases h : s.size ≤ 3000
 ·exact lex.scan_any s w h hv T hT
 ·have hlen : s.data.toList.length = s.size := by rw [Array.length_toList]; rfl
  have := hT.out; rw [scanF, if_pos (by omega)] at this; subst this; refine (lex.scan_long s w (by omega) hs).mono ?_
  rintro e w' ⟨rfl, hE⟩; exact ⟨_, rfl, World.ownsRow_nil _ _ _ _, hE⟩
theorem scan_length (f : Nat) (l : List UInt8) : ∀ p acc, (scanTok f l p acc).1.length ≤ acc.length + f := by
 induction f with
 | zero => intro p acc; simp [scanTok]
 | succ f ih =>
  intro p acc; rw [scanTok]; split
  ·simp only
   split
   ·have := ih (p + (tokF (l.drop p)).2.1 + skipB false (l.drop (p + (tokF (l.drop p)).2.1))) (acc ++ [((tokF (l.drop p)).1, p, (tokF (l.drop p)).2.1)])
    simp at this
    omega
   ·simp
  ·simp
end lexTells
end Go.Proofs.YtpcihajmcejliabGreatDoor
namespace Go.Proofs.YtpcihajmcejliabGreatDoor
open Go.RowKit
namespace rlex
set_option maxHeartbeats 400000 in
theorem letter_any (n : Int) (w : World) :
  Calls Tryz.prog 154 #[.int .u8 n] w fun e w' => e = .returned (.bool (letterB n)) ∧ w = w' := by
 generalize hR : letterB n = R; have HR := Z_ hR; clear hR; go_enter Tryz.func154, Tryz.ntmps154
 go_wp2
 all_goals go_ret
 all_goals exact ⟨ret_bool (by rw [← HR.out, letterB, Bool.eq_iff_iff]; simp; omega), rfl⟩
set_option maxHeartbeats 400000 in
theorem digit_any (n : Int) (w : World) :
  Calls Tryz.prog 155 #[.int .u8 n] w fun e w' => e = .returned (.bool (digitB n)) ∧ w = w' := by
 generalize hR : digitB n = R; have HR := Z_ hR; clear hR; go_enter Tryz.func155, Tryz.ntmps155
 go_wp2
 all_goals go_ret
 all_goals exact ⟨ret_bool (by rw [← HR.out, digitB, Bool.eq_iff_iff]; simp; omega), rfl⟩
set_option maxHeartbeats 400000 in
theorem inside_any (n : Int) (w : World) :
  Calls Tryz.prog 153 #[.int .u8 n] w fun e w' => e = .returned (.bool (partB n)) ∧ w = w' := by
 generalize hR : partB n = R; have HR := Z_ hR; clear hR; obtain ⟨L, hL⟩ : ∃ L, letterB n = L := ⟨_, rfl⟩; obtain ⟨D, hD⟩ : ∃ D, digitB n = D := ⟨_, rfl⟩; have c1 := letter_any n; have c2 := digit_any n; rw [hL] at c1; rw [hD] at c2; have C1 := Z_ c1; have C2 := Z_ c2; have HL := Z_ hL; have HD := Z_ hD; clear c1 c2 hL hD; cases L <;> cases D
 all_goals
  go_enter Tryz.func153, Tryz.ntmps153
  go_wp2_with (first | (refine (C1.out _).mono ?_; rintro e w' ⟨rfl, rfl⟩) | (refine (C2.out _).mono ?_; rintro e w' ⟨rfl, rfl⟩))
  all_goals go_ret
  all_goals exact ⟨ret_bool (by rw [← HR.out, partB, HL.out, HD.out, Bool.eq_iff_iff]; simp), rfl⟩
theorem digs_take (s : ByteArray) (k : Nat) (h : k < s.size) : digs (s.data.toList.take (k + 1)) = (digs (s.data.toList.take k) && digitB s[k].toNat) := by
 have e : s.data.toList[k]'(by simpa using h) = s[k] := rfl; rw [List.take_succ_eq_append_getElem (by simpa using h), e]; simp [digs]
theorem less_total (l : List UInt8) : ∀ m, l.length = m.length → Op.bytesLess l m = false → Op.bytesLess m l = false → l = m := by
 induction l with
 | nil => intro m h _ _; cases m with | nil => rfl | cons _ _ => simp at h
 | cons c r ih =>
  intro m h h1 h2; cases m with
  | nil => simp at h
  | cons d q =>
   simp only [Op.bytesLess, Bool.or_eq_false_iff, Bool.and_eq_false_iff, decide_eq_false_iff_not, beq_eq_false_iff_ne, UInt8.lt_iff_toNat_lt] at h1 h2; have e : c = d := UInt8.toNat_inj.1 (by omega); subst e; rw [ih q (by simpa using h) (h1.2.resolve_left (fun h => h rfl)) (h2.2.resolve_left (fun h => h rfl))]
def mostL : List UInt8 := [57, 50, 50, 51, 51, 55, 50, 48, 51, 54, 56, 53, 52, 55, 55, 53, 56, 48, 55]
theorem most_dec : decFrom 0 mostL = 9223372036854775807 := by
 simp only [decFrom, mostL, List.foldl_cons, List.foldl_nil, dstep_eq]; rfl
theorem signN_le (l : List UInt8) : signN l ≤ l.length := by
 unfold signN; split
 ·rename_i h
  have := (List.isPrefixOf_iff_prefix.1 h).length_le; simpa using this
 ·split
  ·simp
  ·split <;> simp
end rlex
end Go.Proofs.YtpcihajmcejliabGreatDoor
namespace Go.Proofs.YtpcihajmcejliabGreatDoor
open Go.RowKit
namespace again
def text (l : List UInt8) (t : Tok) : List UInt8 := (l.drop t.2.1).take t.2.2
def Good (l : List UInt8) (t : Tok) : Prop := tokF (l.drop t.2.1) = (t.1, t.2.2, 0) ∧ t.2.1 + t.2.2 ≤ l.length ∧ t.2.1 < l.length
theorem take_run (p : Int → Bool) (m : List UInt8) : m.take (runN p m) = m.takeWhile fun c => p c.toNat := by
 unfold runN; induction m with
 | nil => rfl
 | cons c r ih =>
  simp only [List.takeWhile_cons]; split
  ·simp [ih]
  ·rfl
theorem part_not (c : UInt8) (h : letterB c.toNat = true ∨ digitB c.toNat = true) : ¬ (c = 32 ∨ c = 10) ∧ c ≠ 35 := by
 refine ⟨?_, ?_⟩
 ·rintro (rfl | rfl) <;> exact absurd h (by decide)
 ·rintro rfl; exact absurd h (by decide)
theorem all_take (p : UInt8 → Bool) (l : List UInt8) : ∀ d ∈ l.takeWhile p, p d = true := by
 induction l with
 | nil => intro d hd; simp at hd
 | cons c r ih =>
  intro d hd; rw [List.takeWhile_cons] at hd; split at hd
  ·rename_i hc
   rcases List.mem_cons.1 hd with rfl | hd
   ·exact hc
   ·exact ih d hd
  ·simp at hd
theorem tokF_le (l : List UInt8) : (tokF l).2.1 ≤ l.length := by
 cases l with
 | nil => simp [tokF]
 | cons c r =>
  simp only [tokF]; split
  ·exact runN_le _ _
  ·split
   ·exact runN_le _ _
   ·exact rlex.signN_le _
theorem scan_good (l : List UInt8) : ∀ (f p : Nat) (acc : List Tok), (∀ t ∈ acc, Good l t) → (∀ t ∈ (scanTok f l p acc).1, Good l t) ∧ ((scanTok f l p acc).1.map (·.2.2)).sum ≤ (acc.map (·.2.2)).sum + (l.length - p) := by
 intro f; induction f with
 | zero => intro p acc h; simp [scanTok]
 | succ f ih =>
  intro p acc h; rw [scanTok]; split
  ·rename_i hp
   simp only
   split
   ·rename_i he
    have hle := tokF_le (l.drop p); rw [List.length_drop] at hle
    have hg : Good l ((tokF (l.drop p)).1, p, (tokF (l.drop p)).2.1) := by
     refine ⟨?_, by simp only; omega, hp⟩
     simp only
     rw [← he]
    obtain ⟨i1, i2⟩ := ih (p + (tokF (l.drop p)).2.1 + skipB false (l.drop (p + (tokF (l.drop p)).2.1))) (acc ++ [((tokF (l.drop p)).1, p, (tokF (l.drop p)).2.1)]) (by
     intro t ht; rcases List.mem_append.1 ht with ht | ht
     ·exact h t ht
     ·simp at ht; subst ht; exact hg)
    refine ⟨i1, Nat.le_trans i2 ?_⟩
    simp only [List.map_append, List.map_cons, List.map_nil, List.sum_append, List.sum_cons, List.sum_nil]; omega
   ·exact ⟨by simp, by simp⟩
  ·exact ⟨h, by simp only; omega⟩
end again
end Go.Proofs.YtpcihajmcejliabGreatDoor
