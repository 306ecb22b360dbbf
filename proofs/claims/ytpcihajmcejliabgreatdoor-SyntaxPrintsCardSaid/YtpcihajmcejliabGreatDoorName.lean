/- The walk of scanner.next. The walk of lex.Scan. The program's Scan, of every text; what its tokens are in memory. The walks of the reference's package 2: bytes, signs. Tokens written one behind the other, with a blank between: plain Lean. Names, in plain Lean. Nodes and tokens in plain Lean, how they lie in memory, and what the parser comes to. The walk of the program's parser: peek, fail, is, have, need, name, whole, label, node, number. The walks of syntax.IsName and of the reference's Name. -/
import Derived.RegionTactic
import Derived.ChangeAlike
import Derived.WalkLawsBesides
import Derived.Lib.IndexMore
import Derived.Test.YtpcihajmcejliabGreatDoorProg
import Derived.WalkKit
import Derived.WalkSpells
import Derived.Deep.RegionHeld3
import Derived.BigQuiet
import Derived.Deep.QuietTactic
import Derived.StillTailTactics
import Derived.Deep.CutBlock
import Derived.Deep.DeepCutAuto
import Derived.Test.YtpcihajmcejliabGreatDoorLexTok
namespace Go.Proofs.YtpcihajmcejliabGreatDoor
open Go.RowKit
def signsL : List UInt8 := [123, 125, 40, 41, 91, 93, 59, 44, 46, 61, 60, 43, 45, 42, 47, 37, 38, 124, 33]
def signN (l : List UInt8) : Nat := if Lib.hasPrefix l [61, 61] = true then 2 else match l with | [] => 0 | c :: _ => if signsL.contains c then 1 else 0
def tokF (l : List UInt8) : Int × Nat × Int :=
 match l with
 | [] => (0, 0, 2)
 | c :: _ =>
  if letterB c.toNat then (1, runN partB l, if 16 < runN partB l then 1 else 0)
  else if digitB c.toNat then (2, runN partB l, numeralF (l.take (runN partB l)))
  else (3, signN l, if signN l = 0 then 2 else 0)
namespace lex
theorem extract_list (s : ByteArray) (k n : Nat) : (s.extract k (k + n)).data.toList = (s.data.toList.drop k).take n := by
 simp [ByteArray.data_extract]
theorem extract_end (s : ByteArray) (k : Nat) : (s.extract k s.size).data.toList = s.data.toList.drop k := by
 have e : s.data.size = s.size := rfl; simp only [ByteArray.data_extract, Array.toList_extract, List.extract_eq_take_drop]; rw [List.take_of_length_le (by simp)]
def NextPost (p : Nat) (s : ByteArray) (k : Nat) (c f : Int) (w : World) (T : Int × Nat × Int) (e : Ending) (w' : World) : Prop :=
 e = .returned (.tuple #[if T.2.2 = 0 then tokV T.1 (s.extract k (k + T.2.1)) 0 else tokV 0 ⟨#[]⟩ 0, .int .i64 T.2.2]) ∧ ∃ k' : Nat, (T.2.2 = 0 → k' = k + T.2.1) ∧ k' ≤ s.size ∧ Scn w' p s k' c f ∧ Chg (fun i => i = p) w w'
theorem fin3 {w : World} {p b : Nat} {s : ByteArray} {k : Nat} {c f : Int} (h : Scn w p s k c f) (hp : p ≠ b) (x y z : Value) : Scn (((w.setCell ⟨b, 0, none⟩ x).setCell ⟨b, 1, none⟩ y).setCell ⟨b, 2, none⟩ z) p s k c f :=
 ((h.setOther hp _).setOther hp _).setOther hp _
theorem chg3 {S : Nat → Prop} {a w : World} {b : Nat} (h : Chg S a w) (hb : a.heap.size ≤ b) (x y z : Value) : Chg S a (((w.setCell ⟨b, 0, none⟩ x).setCell ⟨b, 1, none⟩ y).setCell ⟨b, 2, none⟩ z) :=
 ((h.setNew hb _).setNew hb _).setNew hb _
set_option maxRecDepth 100000 in
set_option maxHeartbeats 1000000 in
theorem next_letter (p : Nat) (s : ByteArray) (k : Nat) (c f : Int) (w : World) (h : Scn w p s k c f) (hk : k < s.size) (hs : s.size ≤ 100000) (hl : letterB s[k].toNat = true) :
  Calls Tryz.prog 147 #[.pointer (some ⟨p, 0, none⟩)] w (NextPost p s k c f w (tokF (s.data.toList.drop k))) := by
 generalize hT : tokF (s.data.toList.drop k) = T; rw [drop_cons s k hk] at hT; simp only [tokF, hl, if_true] at hT; rw [← drop_cons s k hk] at hT; have hp := h.lt; have hpn : p ≠ w.heap.size := by omega
 have c0 := h.cell 0; have c1 := h.cell 1; have f1 := h.frozen 1; simp only [List.getElem?_toArray, List.getElem?_cons_zero, List.getElem?_cons_succ] at c0 c1; have cc := letter_any (s[k].toNat : Int); rw [hl] at cc; have CC := Z_ cc; have hroom := runN_room partB s k (by omega); obtain ⟨n, hn⟩ : ∃ n, runN partB (s.data.toList.drop k) = n := ⟨_, rfl⟩; have C2 := Z_ (fun w' h' => run_part p s k c f w' h' (by omega) hs); rw [hn] at hT hroom C2; clear cc hl hn; by_cases h16 : 16 < n
 ·rw [if_pos h16] at hT
  have HT := Z_ hT; clear hT; go_enter Tryz.func147, Tryz.ntmps147
  go_wp2_with fail
  go_quiet (fail)
  go_wp2_with (first | (go_at_call 214; refine (CC.out _).mono ?_; rintro e w' ⟨rfl, rfl⟩) | (go_at_call 211; refine (C2.out _ ((h.alloc _).drewN _)).mono ?_; rintro e w' ⟨rfl, hS, hC⟩; have hK := ((Blk.made w _ _).drewN _).chg hC (fun e => hpn e.symm); have hKc := hK.cell; have hKf := hK.frozen))
  refine bodyPost_ret (results_cell2 rfl _ _ rfl (((hK.set 0 _).set 1 _).set 2 _) Tryz.underlying163 rfl (by kernel_rfl)) rfl ?_
  rw [← HT.out]; exact ⟨rfl, k + n, fun _ => rfl, hroom, fin3 hS hpn _ _ _, chg3 ((((Chg.refl _ w).alloc _).drewN _).then hC) (Nat.le_refl _) _ _ _⟩
 ·rw [if_neg h16] at hT
  have HT := Z_ hT; clear hT; go_enter Tryz.func147, Tryz.ntmps147
  go_wp2_with fail
  go_quiet (fail)
  go_wp2_with (first | (go_at_call 214; refine (CC.out _).mono ?_; rintro e w' ⟨rfl, rfl⟩) | (go_at_call 211; refine (C2.out _ ((h.alloc _).drewN _)).mono ?_; rintro e w' ⟨rfl, hS, hC⟩; have hK := ((Blk.made w _ _).drewN _).chg hC (fun e => hpn e.symm); have hKc := hK.cell; have hKf := hK.frozen))
  refine bodyPost_ret (results_cell2 rfl _ _ rfl (((hK.set 0 _).set 1 _).set 2 _) Tryz.underlying163 rfl (by kernel_rfl)) rfl ?_
  rw [← HT.out]; exact ⟨rfl, k + n, fun _ => rfl, hroom, fin3 hS hpn _ _ _, chg3 ((((Chg.refl _ w).alloc _).drewN _).then hC) (Nat.le_refl _) _ _ _⟩
set_option maxRecDepth 100000 in
set_option maxHeartbeats 1000000 in
theorem next_digit (p : Nat) (s : ByteArray) (k : Nat) (c f : Int) (w : World) (h : Scn w p s k c f) (hk : k < s.size) (hs : s.size ≤ 100000) (hl : letterB s[k].toNat = false) (hd : digitB s[k].toNat = true) (hv : ErrVar w) (hvp : p ≠ 2) :
  Calls Tryz.prog 147 #[.pointer (some ⟨p, 0, none⟩)] w (NextPost p s k c f w (tokF (s.data.toList.drop k))) := by
 generalize hT : tokF (s.data.toList.drop k) = T; rw [drop_cons s k hk] at hT; simp only [tokF, hl, hd, Bool.false_eq_true, if_false, if_true] at hT; rw [← drop_cons s k hk] at hT; have hp := h.lt; have hpn : p ≠ w.heap.size := by omega
 have c0 := h.cell 0; have c1 := h.cell 1; have f1 := h.frozen 1; simp only [List.getElem?_toArray, List.getElem?_cons_zero, List.getElem?_cons_succ] at c0 c1; have cc := letter_any (s[k].toNat : Int); rw [hl] at cc; have CC := Z_ cc; have cd := digit_any (s[k].toNat : Int); rw [hd] at cd; have CD := Z_ cd; have hroom := runN_room partB s k (by omega)
 have hpos : 0 < runN partB (s.data.toList.drop k) := by
  rw [runN_step partB s k hk (by unfold partB; rw [hd]; simp)]; omega
 obtain ⟨n, hn⟩ : ∃ n, runN partB (s.data.toList.drop k) = n := ⟨_, rfl⟩; have C2 := Z_ (fun w' h' => run_part p s k c f w' h' (by omega) hs); rw [hn] at hT hroom C2 hpos; have c3 := fun w' hv' => number_any (s.extract k (k + n)) w' (by simp; omega) (by simp; omega) hv'
 rw [extract_list] at c3; clear cc cd hl hd hn; by_cases h0 : numeralF ((s.data.toList.drop k).take n) = 0
 ·rw [if_pos h0, h0] at c3
  rw [h0] at hT; have C3 := Z_ c3; have HT := Z_ hT; clear hT c3 h0; go_enter Tryz.func147, Tryz.ntmps147
  go_wp2_with fail
  go_quiet (fail)
  go_wp2_with (first | (go_at_call 214; refine (CC.out _).mono ?_; rintro e w' ⟨rfl, rfl⟩) | (go_at_call 216; refine (CD.out _).mono ?_; rintro e w' ⟨rfl, rfl⟩) | (go_at_call 211; refine (C2.out _ ((h.alloc _).drewN _)).mono ?_; rintro e w' ⟨rfl, hS, hC⟩; have hK := ((Blk.made w _ _).drewN _).chg hC (fun e => hpn e.symm)) | (go_at_call 217; refine (C3.out _ ((((hv.ext ((Chg.refl _ w).alloc _)).ext ((Chg.refl _ _).drewN _)).chg hC (fun e => hvp e.symm)))).mono ?_; rintro e w3 ⟨rfl, hE⟩; have hK2 := hK.ext hE; have hS2 := hS.ext hE; have hKc := hK2.cell; have hKf := hK2.frozen; unfold tokV))
  refine bodyPost_ret (results_cell2 rfl _ _ rfl (((hK2.set 0 _).set 1 _).set 2 _) Tryz.underlying163 rfl (by kernel_rfl)) rfl ?_
  rw [← HT.out]; exact ⟨rfl, k + n, fun _ => rfl, hroom, fin3 hS2 hpn _ _ _, chg3 (((((Chg.refl _ w).alloc _).drewN _).then hC).ext hE) (Nat.le_refl _) _ _ _⟩
 ·obtain ⟨q, hq⟩ : ∃ q, numeralF ((s.data.toList.drop k).take n) = q := ⟨_, rfl⟩
  rw [if_neg h0] at c3; rw [hq] at hT c3 h0; have C3 := Z_ c3; have HT := Z_ hT; have H0 := Z_ h0; clear hT c3 h0 hq; go_enter Tryz.func147, Tryz.ntmps147
  go_wp2_with fail
  go_quiet (fail)
  go_wp2_with (first | (go_at_call 214; refine (CC.out _).mono ?_; rintro e w' ⟨rfl, rfl⟩) | (go_at_call 216; refine (CD.out _).mono ?_; rintro e w' ⟨rfl, rfl⟩) | (go_at_call 211; refine (C2.out _ ((h.alloc _).drewN _)).mono ?_; rintro e w' ⟨rfl, hS, hC⟩; have hK := ((Blk.made w _ _).drewN _).chg hC (fun e => hpn e.symm)) | (go_at_call 217; refine (C3.out _ ((((hv.ext ((Chg.refl _ w).alloc _)).ext ((Chg.refl _ _).drewN _)).chg hC (fun e => hvp e.symm)))).mono ?_; rintro e w3 ⟨rfl, hE⟩; have hK2 := hK.ext hE; have hS2 := hS.ext hE; have hKc := hK2.cell; have hKf := hK2.frozen; unfold tokV))
  refine bodyPost_ret (results_cell2 rfl _ _ rfl (((hK2.set 0 _).set 1 _).set 2 _) Tryz.underlying163 rfl (by kernel_rfl)) rfl ?_
  rw [← HT.out]; refine ⟨?_, k + n, fun _ => rfl, hroom, fin3 hS2 hpn _ _ _, chg3 (((((Chg.refl _ w).alloc _).drewN _).then hC).ext hE) (Nat.le_refl _) _ _ _⟩
  rw [if_neg H0.out]; rfl
theorem contains_index (c : UInt8) (l : List UInt8) : 0 ≤ Lib.indexByte l c ↔ l.contains c = true := by
 have key : ∀ l : List UInt8, -1 ≤ Lib.indexByte l c ∧ (0 ≤ Lib.indexByte l c ↔ l.contains c = true) := by
  intro l; induction l with
  | nil => simp [Lib.indexByte]
  | cons b r ih =>
   obtain ⟨h1, h2⟩ := ih; simp only [Lib.indexByte, List.contains_cons, Bool.or_eq_true, beq_iff_eq]; by_cases hb : b = c
   ·subst hb; simp
   ·simp only [hb, Ne.symm hb, if_false, false_or, ← h2]
    by_cases hm : Lib.indexByte r c = -1
    ·simp [hm]
    ·simp only [hm, if_false]; omega
 exact (key l).2
theorem encode_ascii (c : UInt8) (h : c.toNat < 128) : Utf8.encode (c.toNat : Int) = ⟨#[c]⟩ := by
 have hv : Utf8.valid (c.toNat : Int) = true := by simp [Utf8.valid]; omega
 simp only [Utf8.encode, hv, if_true, Int.toNat_natCast]; rw [if_pos h]; simp
theorem wrap32_byte (c : UInt8) : wrap32 (c.toNat : Int) = c.toNat := by
 have := c.toNat_lt; unfold wrap32; omega
theorem one_byte (s : ByteArray) (k : Nat) (hk : k < s.size) : (⟨#[s[k]]⟩ : ByteArray) = s.extract k (k + 1) := by
 apply ByteArray.ext
 apply Array.ext'
 rw [extract_list, drop_cons s k hk]; rfl
theorem two_bytes (s : ByteArray) (k : Nat) (h : Lib.hasPrefix (s.data.toList.drop k) [61, 61] = true) : (⟨#[61, 61]⟩ : ByteArray) = s.extract k (k + 2) ∧ k + 2 ≤ s.size := by
 have h' : [61, 61] <+: s.data.toList.drop k := List.isPrefixOf_iff_prefix.1 h; obtain ⟨r, hr⟩ := h'; have hl : (s.data.toList.drop k).length = 2 + r.length := by rw [← hr]; simp; omega
 have e : s.data.size = s.size := rfl; simp only [List.length_drop, Array.length_toList] at hl; refine ⟨?_, by omega⟩
 apply ByteArray.ext
 apply Array.ext'
 rw [extract_list, ← hr]; rfl
theorem two_first (l : List UInt8) (h : Lib.hasPrefix l [61, 61] = true) : ∃ r, l = 61 :: r := by
 obtain ⟨r, hr⟩ := List.isPrefixOf_iff_prefix.1 h; exact ⟨_, hr.symm⟩
theorem sign_ascii (c : UInt8) (h : signsL.contains c = true) : c.toNat < 128 := by
 have key : ∀ c ∈ signsL, c.toNat < 128 := by decide
 exact key c (by simpa using h)
set_option maxRecDepth 100000 in
set_option maxHeartbeats 1000000 in
theorem next_sign (p : Nat) (s : ByteArray) (k : Nat) (c f : Int) (w : World) (h : Scn w p s k c f) (hk : k < s.size) (hs : s.size ≤ 100000) (hl : letterB s[k].toNat = false) (hd : digitB s[k].toNat = false) :
  Calls Tryz.prog 147 #[.pointer (some ⟨p, 0, none⟩)] w (NextPost p s k c f w (tokF (s.data.toList.drop k))) := by
 generalize hT : tokF (s.data.toList.drop k) = T; rw [drop_cons s k hk] at hT; simp only [tokF, hl, hd, Bool.false_eq_true, if_false] at hT; rw [← drop_cons s k hk] at hT; have hp := h.lt; have hpn : p ≠ w.heap.size := by omega
 have c0 := h.cell 0; have c1 := h.cell 1; have f1 := h.frozen 1; simp only [List.getElem?_toArray, List.getElem?_cons_zero, List.getElem?_cons_succ] at c0 c1; have cc := letter_any (s[k].toNat : Int); rw [hl] at cc; have CC := Z_ cc; have cd := digit_any (s[k].toNat : Int); rw [hd] at cd; have CD := Z_ cd; have ci := fun w => (Tryz.strings_IndexByte ⟨#[123, 125, 40, 41, 91, 93, 59, 44, 46, 61, 60, 43, 45, 42, 47, 37, 38, 124, 33]⟩ (s[k].toNat : Int) w)
 have cx : (s[k].toNat : Int).toNat.toUInt8 = s[k] := by simp
 rw [cx] at ci; have hcon := contains_index s[k] signsL; obtain ⟨I, hI⟩ : ∃ I, Lib.indexByte signsL s[k] = I := ⟨_, rfl⟩; have ci : ∀ w, Calls Tryz.prog 218 #[.string ⟨#[123, 125, 40, 41, 91, 93, 59, 44, 46, 61, 60, 43, 45, 42, 47, 37, 38, 124, 33]⟩, .int .u8 s[k].toNat] w fun e w' => e = .returned (.int .i64 I) ∧ w' = w := by rw [← hI]; exact ci
 have CI := Z_ ci; rw [hI] at hcon; clear cc cd hl hd ci cx hI; have cp := fun w => Tryz.strings_HasPrefix (s.extract k s.size) ⟨#[61, 61]⟩ w
 rw [extract_end] at cp; obtain ⟨B, hB⟩ : ∃ B, Lib.hasPrefix (s.data.toList.drop k) [61, 61] = B := ⟨_, rfl⟩; have cp : ∀ w, Calls Tryz.prog 219 #[.string (s.extract k s.size), .string ⟨#[61, 61]⟩] w fun e w' => e = .returned (.bool B) ∧ w' = w := by rw [← hB]; exact cp
 have CP := Z_ cp; clear cp; cases hcn : signsL.contains s[k]
 ·rw [hcn] at hcon
  have hI0 : I < 0 := by
   rcases Int.lt_or_le I 0 with h | h
   ·exact h
   ·exact absurd (hcon.1 h) (by simp)
  have hB' : B = false := by
   cases B
   ·rfl
   ·obtain ⟨r, hr⟩ := two_first _ hB
    rw [drop_cons s k hk] at hr; injection hr with e1 _
    rw [e1] at hcn; exact absurd hcn (by decide)
  have hsn : signN (s.data.toList.drop k) = 0 := by
   unfold signN; rw [hB, hB', drop_cons s k hk]; simp only [Bool.false_eq_true, if_false, hcn]
  rw [hsn] at hT; have HT := Z_ hT; clear hT hsn hB' hB hcn hcon CP; go_enter Tryz.func147, Tryz.ntmps147
  go_wp2_with fail
  go_quiet (fail)
  go_wp2_with (first | (go_at_call 214; refine (CC.out _).mono ?_; rintro e w' ⟨rfl, rfl⟩) | (go_at_call 216; refine (CD.out _).mono ?_; rintro e w' ⟨rfl, rfl⟩) | (go_at_call 218; refine (CI.out _).mono ?_; rintro e w' ⟨rfl, rfl⟩))
  refine bodyPost_ret (results_cell2 rfl _ _ rfl (((((Blk.made w _ _).drewN _).set 0 _).set 1 _).set 2 _) Tryz.underlying163 rfl (by kernel_rfl)) rfl ?_
  rw [← HT.out]; exact ⟨rfl, k, fun h => by simp at h, by omega, fin3 ((h.alloc _).drewN _) hpn _ _ _, chg3 (((Chg.refl _ w).alloc _).drewN _) (Nat.le_refl _) _ _ _⟩
 ·rw [hcn] at hcon
  have hkI : (k : Int) ≤ (s.size : Int) := by omega
  have hI0 : 0 ≤ I := hcon.2 rfl; have hasc := sign_ascii _ hcn; cases B
  ·have hsn : signN (s.data.toList.drop k) = 1 := by
    unfold signN; rw [hB, drop_cons s k hk]; simp only [Bool.false_eq_true, if_false, hcn, if_true]
   rw [hsn] at hT; have HT := Z_ hT; have HE := Z_ (encode_ascii _ hasc); have H1 := Z_ (one_byte s k hk); clear hT hsn hB hcn hcon hasc; go_enter Tryz.func147, Tryz.ntmps147
   go_wp2_with fail
   go_quiet (fail)
   generalize s[k] = cb at *; have he := HE.out; go_wp2_with (first | (go_at_call 214; refine (CC.out _).mono ?_; rintro e w' ⟨rfl, rfl⟩) | (go_at_call 216; refine (CD.out _).mono ?_; rintro e w' ⟨rfl, rfl⟩) | (go_at_call 218; refine (CI.out _).mono ?_; rintro e w' ⟨rfl, rfl⟩))
   go_quiet ((go_at_call 219; exact quiet_add_right CP.out _ _ _))
   go_wp2_with fail
   rw [wrap32_byte, HE.out, H1.out]; refine bodyPost_ret (results_cell2 rfl _ _ rfl ((((((Blk.made w _ _).drewN _).setOther (fun e => hpn e.symm) _).set 0 _).set 1 _).set 2 _) Tryz.underlying163 rfl (by kernel_rfl)) rfl ?_
   rw [← HT.out]; exact ⟨rfl, k + 1, fun _ => rfl, by omega, fin3 (Blk.set ((h.alloc _).drewN _) 1 _) hpn _ _ _, chg3 ((((Chg.refl (fun i => i = p) w).alloc _).drewN _).setCell (fun _ => rfl) _) (Nat.le_refl _) _ _ _⟩
  ·have hsn : signN (s.data.toList.drop k) = 2 := by
    unfold signN; rw [hB, if_pos rfl]
   obtain ⟨h2, hk2⟩ := two_bytes s k hB; have H2 := Z_ h2; rw [hsn] at hT; have HT := Z_ hT; clear hT hsn hB hcn hcon hasc h2; go_enter Tryz.func147, Tryz.ntmps147
   go_wp2_with fail
   go_quiet (fail)
   generalize s[k] = cb at *; go_wp2_with (first | (go_at_call 214; refine (CC.out _).mono ?_; rintro e w' ⟨rfl, rfl⟩) | (go_at_call 216; refine (CD.out _).mono ?_; rintro e w' ⟨rfl, rfl⟩) | (go_at_call 218; refine (CI.out _).mono ?_; rintro e w' ⟨rfl, rfl⟩))
   go_quiet ((go_at_call 219; exact quiet_add_right CP.out _ _ _))
   go_wp2_with fail
   rw [H2.out]; refine bodyPost_ret (results_cell2 rfl _ _ rfl ((((((Blk.made w _ _).drewN _).setOther (fun e => hpn e.symm) _).set 0 _).set 1 _).set 2 _) Tryz.underlying163 rfl (by kernel_rfl)) rfl ?_
   rw [← HT.out]; exact ⟨rfl, k + 2, fun _ => rfl, hk2, fin3 (Blk.set ((h.alloc _).drewN _) 1 _) hpn _ _ _, chg3 ((((Chg.refl (fun i => i = p) w).alloc _).drewN _).setCell (fun _ => rfl) _) (Nat.le_refl _) _ _ _⟩
theorem next_any (p : Nat) (s : ByteArray) (k : Nat) (c f : Int) (w : World) (h : Scn w p s k c f) (hk : k < s.size) (hs : s.size ≤ 100000) (hv : ErrVar w) (hvp : p ≠ 2) :
  Calls Tryz.prog 147 #[.pointer (some ⟨p, 0, none⟩)] w (NextPost p s k c f w (tokF (s.data.toList.drop k))) := by
 cases hl : letterB s[k].toNat
 ·cases hd : digitB s[k].toNat
  ·exact next_sign p s k c f w h hk hs hl hd
  ·exact next_digit p s k c f w h hk hs hl hd hv hvp
 ·exact next_letter p s k c f w h hk hs hl
end lex
end Go.Proofs.YtpcihajmcejliabGreatDoor
namespace Go.Proofs.YtpcihajmcejliabGreatDoor
open Go.RowKit
abbrev Tok := Int × Nat × Nat
def Tok.cells (s : ByteArray) (t : Tok) : List Value := [.int .i64 t.1, .string (s.extract t.2.1 (t.2.1 + t.2.2)), .int .i64 t.2.1]
def tokCells (s : ByteArray) (l : List Tok) : List Value := l.flatMap (Tok.cells s)
def scanTok : Nat → List UInt8 → Nat → List Tok → List Tok × Int × Nat
 | 0, _, _, _ => ([], 0, 0)
 | f + 1, l, p, acc =>
  if p < l.length then
   let T := tokF (l.drop p)
   if T.2.2 = 0 then scanTok f l (p + T.2.1 + skipB false (l.drop (p + T.2.1))) (acc ++ [(T.1, p, T.2.1)]) else ([], T.2.2, p)
  else (acc, 0, 0)
def scanF (l : List UInt8) : List Tok × Int × Nat := if 3000 < l.length then ([], 1, 0) else scanTok (l.length + 1) l (skipB false l) []
theorem tokCells_snoc (s : ByteArray) (l : List Tok) (t : Tok) : tokCells s (l ++ [t]) = tokCells s l ++ Tok.cells s t := by simp [tokCells]
theorem tok_pos (l : List UInt8) (h : (tokF l).2.2 = 0) : 1 ≤ (tokF l).2.1 := by
 cases l with
 | nil => simp [tokF] at h
 | cons c r =>
  simp only [tokF] at h ⊢
  have hr : partB c.toNat = true → 1 ≤ runN partB (c :: r) := by
   intro hb; simp [runN, hb]
  split
  ·rename_i hl; exact hr (by simp [partB, hl])
  ·rename_i hl
   rw [if_neg hl] at h; split
   ·rename_i hd; exact hr (by simp [partB, hd])
   ·rename_i hd
    rw [if_neg hd] at h; by_cases hz : signN (c :: r) = 0
    ·simp [hz] at h
    ·simp only; omega
namespace lex
set_option maxRecDepth 100000 in
set_option maxHeartbeats 1000000 in
theorem scan_long (s : ByteArray) (w : World) (h : 3000 < s.size) (hs : s.size ≤ 9223372036854775807) :
  Calls Tryz.prog 83 #[.string s] w fun e w' => e = .returned (.tuple #[.slice none 0 0, .agg #[.int .i64 1, .int .i64 0]]) ∧ Ext w w' := by
 go_enter Tryz.func83, Tryz.ntmps83
 go_wp2_with fail
 exact bodyPost_ret (results_2cell rfl _ _ rfl (Blk.made w _ _) Tryz.underlying68 rfl (by kernel_rfl)) rfl ⟨rfl, (Chg.refl _ w).alloc _⟩
set_option maxRecDepth 100000 in
set_option maxHeartbeats 2000000 in
theorem scan_any (s : ByteArray) (w : World) (h : s.size ≤ 3000) (hv : ErrVar w) (T : List Tok × Int × Nat) (hT : Hid (scanF s.data.toList = T)) :
  Calls Tryz.prog 83 #[.string s] w fun e w' => ∃ v, e = .returned (.tuple #[v, .agg #[.int .i64 T.2.1, .int .i64 T.2.2]]) ∧ w'.ownsRow (w.heap.size + 2) 163 3 v T.1.length (tokCells s T.1) ∧ Ext w w' := by
 have hlen : s.data.toList.length = s.size := by rw [Array.length_toList]; rfl
 go_enter Tryz.func83, Tryz.ntmps83
 go_wp2_with fail
 refine (blanks_any (w.heap.size + 1) s 0 0 0 _ (Blk.made2 w _ _ _) (by omega) (by omega)).mono ?_
 rintro e w1 ⟨rfl, hS, hC⟩; have hR : Blk w1 w.heap.size #[.int .i64 0, .int .i64 0] 68 := ((Blk.made w _ _).alloc _).chg hC (by omega); have hE : Ext w w1 := (((Chg.refl _ w).alloc _).alloc _).trans hC (fun i hi e => by omega); have hv1 : ErrVar w1 := hv.ext hE; have hgv := hv.lt; have hg0 : w.heap.size + 2 ≤ w1.heap.size := by have := hC.size; simp at this; omega
 rw [Nat.zero_add] at hS; have hk0 : skipB false s.data.toList ≤ s.size := by have := skip_le s.data.toList false; omega
 have hT0 : scanTok (s.data.toList.length + 1) s.data.toList (skipB false s.data.toList) [] = T := by
  have := hT.out; rwa [scanF, if_neg (by omega)] at this
 simp only [List.drop_zero] at hS; generalize skipB false s.data.toList = k0 at *; have HT0 := Z_ hT0; clear hT hT0 hC; generalize hP : w.heap.size + 1 = P at *; generalize hQ : w.heap.size = R at *; have HP := Z_ hP; have HQ := Z_ hQ; clear hP hQ; go_wp2_with fail
 have hb0 : w1.ownsRow (R + 2) 163 3 (.slice none 0 0) 0 [] := World.ownsRow_nil _ _ _ _; go_loopw [5] (fun v wr => ∃ (k f : Nat) (acc : List Tok), k ≤ s.size ∧ s.size < f + k ∧ Scn wr P s k 0 0 ∧ Blk wr R #[.int .i64 0, .int .i64 0] 68 ∧ wr.ownsRow (R + 2) 163 3 v acc.length (tokCells s acc) ∧ acc.length ≤ k ∧ Ext w wr ∧ ErrVar wr ∧ R + 2 ≤ wr.heap.size ∧ Hid (scanTok f s.data.toList k acc = T)) (fun _ wr => s.size - at1 wr P)
 case atStart => exact ⟨k0, s.data.toList.length + 1, [], hk0, by omega, hS, hR, hb0, Nat.zero_le _, hE, hv1, hg0, HT0.out⟩
 case round =>
  obtain ⟨k, f, acc, hk, hf, hS, hR, hown, hacc, hE, hv1, hg0, hrel⟩ := hrel; have hm := Scn.at1 hS; have HM := Z_ hm; have hpP : P < wr.heap.size := hS.lt; have hPR : P ≠ R := by have := HP.out; have := HQ.out; omega
  clear hm; obtain ⟨f, rfl⟩ : ∃ f', f = f' + 1 := ⟨f - 1, by omega⟩; have c0 := hS.cell 0; have c1 := hS.cell 1; simp only [List.getElem?_toArray, List.getElem?_cons_zero, List.getElem?_cons_succ] at c0 c1; by_cases hlt : k < s.size
  ·have hd : decide ((k : Int) < (s.size : Int)) = true := by simp; omega
   have hr := hrel.out; rw [scanTok, if_pos (by omega)] at hr; have hpos := tok_pos (s.data.toList.drop k); have HN := Z_ (fun w' h' hv' => next_any P s k 0 0 w' h' hlt (by omega) hv' (by have := HP.out; have := HQ.out; omega)); generalize tokF (s.data.toList.drop k) = N at *; obtain ⟨kd, n, e⟩ := N; by_cases he : e = 0
   ·subst he
    simp only [if_true] at hr hpos; have hn : 1 ≤ n := hpos trivial; have HR := Z_ hr; clear hr hpos; go_wp2_with fail
    refine (HN.out _ hS hv1).mono ?_
    rintro e w' ⟨rfl, k', hk', hk2, hS', hC'⟩; (try simp only [if_true, tokV])
    have hown' := ownsRow_chg hown hC' (fun i hi e => by subst e; have := HP.out; omega); go_upto_region 14 with (fail)
    iterate 10 (go_step)
    refine wpList_append_blk rfl (.tmp 54) (.tmp 56) 147 rfl (R + 2) 163 (.agg #[.int .i64 0, .string ⟨#[]⟩, .int .i64 0]) 3 32 Tryz.underlying147 (by kernel_rfl) rfl (by omega) _ acc.length (tokCells s acc) rfl (ownsRow_ext hown' (((Chg.refl _ _).alloc _).alloc _)) _ 1 1 163 [.int .i64 kd, .string (s.extract k (k + n)), .int .i64 k] rfl (Blk.made2 _ _ _ _) rfl ?c1 ?c2 ?c3 ?c4 ?_
    case c1 => intro u hu; simp at hu; rcases hu with rfl | rfl | rfl <;> rfl
    case c2 => unfold maxLen; omega
    case c3 => omega
    case c4 => have := hC'.size; simp; omega
    intro v' w2 hown2 hC2 _; have hPb : P < R + 2 := by have := HP.out; omega
    have hS2 : Scn w2 P s k' 0 0 := ((hS'.alloc _).alloc _).chg hC2 (by omega); have hC3 : Chg (fun i => i = P ∨ R + 2 ≤ i) wr w2 := (((hC'.weak (fun _ _ h => .inl h)).alloc _).alloc _).trans hC2 (fun _ _ h => .inr h); have hR2 : Blk w2 R #[.int .i64 0, .int .i64 0] 68 := hR.chg hC3 (by omega); have hE2 : Ext w w2 := hE.trans hC3 (fun i hi h => by have := HQ.out; have := HP.out; omega); have hv2 : ErrVar w2 := hv1.chg hC3 (by have := HP.out; omega); have hg2 : R + 2 ≤ w2.heap.size := Nat.le_trans hg0 hC3.size; obtain rfl : k' = k + n := hk' rfl; clear hS' hC' hown' hC2 hC3 hk'; go_wp2_with fail
    refine (blanks_any P s (k + n) 0 0 _ hS2 hk2 (by omega)).mono ?_
    rintro e w3 ⟨rfl, hS3, hC3⟩; go_wp2_with fail
    go_roundw
    case rel =>
     have hle := skip_le (s.data.toList.drop (k + n)) false; simp only [List.length_drop] at hle; refine ⟨_, f, acc ++ [(kd, k, n)], by omega, by omega, hS3, hR2.chg hC3 (by omega), ?_, by simp; omega, hE2.trans hC3 (fun i hi h => by have := HQ.out; have := HP.out; omega), hv2.chg hC3 (by have := HP.out; omega), Nat.le_trans hg2 hC3.size, HR.out⟩
     have := ownsRow_chg hown2 hC3 (fun i hi e => by omega); rw [tokCells_snoc, List.length_append]; exact this
    case measure =>
     rw [HM.out, Scn.at1 hS3]; omega
   ·have hr2 : ([], e, k) = T := by rw [← hr]; simp only [if_neg he]
    have HR := Z_ hr2; have hne : (e != 0) = true := by rw [bne_iff_ne]; exact he
    have HE := Z_ he; clear hr hpos hr2 he; go_wp2_with fail
    refine (HN.out _ hS hv1).mono ?_
    rintro e w' ⟨rfl, k', hk', hk2, hS', hC'⟩; (try simp only [if_neg HE.out, tokV])
    have hS3 := (hS'.alloc (.cells #[.int .i64 0, .string ⟨#[]⟩, .int .i64 0] 163)); have hf2 := hS3.frozen 2; have hf3 := hS3.frozen 3; have hc2 := hS3.cell 2; have hc3 := hS3.cell 3; go_wp2_with fail
    have hS4 : Blk (((w'.alloc (.cells #[.int .i64 0, .string ⟨#[]⟩, .int .i64 0] 163)).setCell ⟨P, 2, none⟩ (.int .i64 e)).setCell ⟨P, 3, none⟩ (.int .i64 k)) P #[.string s, .int .i64 k', .int .i64 e, .int .i64 k] 237 := (hS3.set 2 _).set 3 _; have hC4 : Chg (fun i => i = P) wr (((w'.alloc (.cells #[.int .i64 0, .string ⟨#[]⟩, .int .i64 0] 163)).setCell ⟨P, 2, none⟩ (.int .i64 e)).setCell ⟨P, 3, none⟩ (.int .i64 k)) := ((hC'.alloc _).setCell (fun _ => rfl) _).setCell (fun _ => rfl) _; clear hc2 hc3 hf2 hf3 hS3; generalize ((w'.alloc (.cells #[.int .i64 0, .string ⟨#[]⟩, .int .i64 0] 163)).setCell ⟨P, 2, none⟩ (.int .i64 e)).setCell ⟨P, 3, none⟩ (.int .i64 k) = w4 at *; have hR4 : Blk w4 R #[.int .i64 0, .int .i64 0] 68 := hR.chg hC4 (by omega); have hc2 : w4.cell? ⟨P, 2, none⟩ = some (.int .i64 e) := hS4.cell 2; have hc3 : w4.cell? ⟨P, 3, none⟩ = some (.int .i64 k) := hS4.cell 3
    have hr0 : w4.cell? ⟨R, 0, none⟩ = some (.int .i64 0) := hR4.cell 0; have hr1 : w4.cell? ⟨R, 1, none⟩ = some (.int .i64 0) := hR4.cell 1; have hrf := hR4.frozen; go_still_tail 5, (by kernel_rfl)
    go_wp2_with fail
    refine bodyPost_ret (results_2cell rfl _ _ rfl ((hR4.drew.set 0 _).set 1 _) Tryz.underlying68 rfl (by kernel_rfl)) rfl ?_
    rw [← HR.out]; exact ⟨_, rfl, World.ownsRow_nil _ _ _ _, ((hE.trans hC4 (fun i hi h => by have := HQ.out; have := HP.out; omega)).drew.setNew (Nat.le_of_eq HQ.out) _).setNew (Nat.le_of_eq HQ.out) _⟩
  ·have hd : decide ((k : Int) < (s.size : Int)) = false := by simp; omega
   have hr := hrel.out; rw [scanTok, if_neg (by omega)] at hr; have HR := Z_ hr; clear hr; have hc2 : wr.cell? ⟨P, 2, none⟩ = some (.int .i64 0) := hS.cell 2; have hc3 : wr.cell? ⟨P, 3, none⟩ = some (.int .i64 0) := hS.cell 3; have hr0 : wr.cell? ⟨R, 0, none⟩ = some (.int .i64 0) := hR.cell 0; have hr1 : wr.cell? ⟨R, 1, none⟩ = some (.int .i64 0) := hR.cell 1; have hrf := hR.frozen; go_wp2_with fail
   go_still_tail 6, (by kernel_rfl)
   go_wp2_with fail
   refine bodyPost_ret (results_2cell rfl _ _ rfl ((hR.drew.set 0 _).set 1 _) Tryz.underlying68 rfl (by kernel_rfl)) rfl ?_
   rw [← HR.out]; refine ⟨_, rfl, ?_, (hE.drew.setNew (Nat.le_of_eq HQ.out) _).setNew (Nat.le_of_eq HQ.out) _⟩
   rw [HQ.out]; exact ownsRow_chg hown (((Chg.refl (fun i => i = R) _).drew.setCell (fun _ => rfl) _).setCell (fun _ => rfl) _) (fun i hi e => by omega)
end lex
end Go.Proofs.YtpcihajmcejliabGreatDoor
namespace Go.Proofs.YtpcihajmcejliabGreatDoor
open Go.RowKit
namespace lexTells
theorem scan_all (s : ByteArray) (w : World) (hs : s.size ≤ 9223372036854775807) (hv : ErrVar w) (T : List Tok × Int × Nat) (hT : Hid (scanF s.data.toList = T)) :
  Calls Tryz.prog 83 #[.string s] w fun e w' => ∃ v, e = .returned (.tuple #[v, .agg #[.int .i64 T.2.1, .int .i64 T.2.2]]) ∧ w'.ownsRow (w.heap.size + 2) 163 3 v T.1.length (tokCells s T.1) ∧ Ext w w' := by
 by_cases h : s.size ≤ 3000
 ·exact lex.scan_any s w h hv T hT
 ·have hlen : s.data.toList.length = s.size := by rw [Array.length_toList]; rfl
  have := hT.out; rw [scanF, if_pos (by omega)] at this; subst this; refine (lex.scan_long s w (by omega) hs).mono ?_
  rintro e w' ⟨rfl, hE⟩; exact ⟨_, rfl, World.ownsRow_nil _ _ _ _, hE⟩
end lexTells
end Go.Proofs.YtpcihajmcejliabGreatDoor
namespace Go.Proofs.YtpcihajmcejliabGreatDoor
open Go.RowKit
namespace rlex
set_option maxHeartbeats 400000 in
theorem letter_any (n : Int) (w : World) :
  Calls Tryz.prog 154 #[.int .u8 n] w fun e w' => e = .returned (.bool (letterB n)) ∧ w = w' := by
 generalize hR : letterB n = R; have HR := Z_ hR; clear hR; go_enter Tryz.func154, Tryz.ntmps154
 go_wp2
 all_goals go_ret
 all_goals exact ⟨ret_bool (by rw [← HR.out, letterB, Bool.eq_iff_iff]; simp; omega), rfl⟩
set_option maxHeartbeats 400000 in
theorem digit_any (n : Int) (w : World) :
  Calls Tryz.prog 155 #[.int .u8 n] w fun e w' => e = .returned (.bool (digitB n)) ∧ w = w' := by
 generalize hR : digitB n = R; have HR := Z_ hR; clear hR; go_enter Tryz.func155, Tryz.ntmps155
 go_wp2
 all_goals go_ret
 all_goals exact ⟨ret_bool (by rw [← HR.out, digitB, Bool.eq_iff_iff]; simp; omega), rfl⟩
set_option maxHeartbeats 400000 in
theorem inside_any (n : Int) (w : World) :
  Calls Tryz.prog 153 #[.int .u8 n] w fun e w' => e = .returned (.bool (partB n)) ∧ w = w' := by
 generalize hR : partB n = R; have HR := Z_ hR; clear hR; obtain ⟨L, hL⟩ : ∃ L, letterB n = L := ⟨_, rfl⟩; obtain ⟨D, hD⟩ : ∃ D, digitB n = D := ⟨_, rfl⟩; have c1 := letter_any n; have c2 := digit_any n; rw [hL] at c1; rw [hD] at c2; have C1 := Z_ c1; have C2 := Z_ c2; have HL := Z_ hL; have HD := Z_ hD; clear c1 c2 hL hD; cases L <;> cases D
 all_goals
  go_enter Tryz.func153, Tryz.ntmps153
  go_wp2_with (first | (refine (C1.out _).mono ?_; rintro e w' ⟨rfl, rfl⟩) | (refine (C2.out _).mono ?_; rintro e w' ⟨rfl, rfl⟩))
  all_goals go_ret
  all_goals exact ⟨ret_bool (by rw [← HR.out, partB, HL.out, HD.out, Bool.eq_iff_iff]; simp), rfl⟩
theorem signN_le (l : List UInt8) : signN l ≤ l.length := by
 unfold signN; split
 ·rename_i h
  have := (List.isPrefixOf_iff_prefix.1 h).length_le; simpa using this
 ·split
  ·simp
  ·split <;> simp
end rlex
end Go.Proofs.YtpcihajmcejliabGreatDoor
namespace Go.Proofs.YtpcihajmcejliabGreatDoor
open Go.RowKit
namespace again
def Good (l : List UInt8) (t : Tok) : Prop := tokF (l.drop t.2.1) = (t.1, t.2.2, 0) ∧ t.2.1 + t.2.2 ≤ l.length ∧ t.2.1 < l.length
theorem part_not (c : UInt8) (h : letterB c.toNat = true ∨ digitB c.toNat = true) : ¬ (c = 32 ∨ c = 10) ∧ c ≠ 35 := by
 refine ⟨?_, ?_⟩
 ·rintro (rfl | rfl) <;> exact absurd h (by decide)
 ·rintro rfl; exact absurd h (by decide)
theorem tokF_le (l : List UInt8) : (tokF l).2.1 ≤ l.length := by
 cases l with
 | nil => simp [tokF]
 | cons c r =>
  simp only [tokF]; split
  ·exact runN_le _ _
  ·split
   ·exact runN_le _ _
   ·exact rlex.signN_le _
theorem scan_good (l : List UInt8) : ∀ (f p : Nat) (acc : List Tok), (∀ t ∈ acc, Good l t) → (∀ t ∈ (scanTok f l p acc).1, Good l t) ∧ ((scanTok f l p acc).1.map (·.2.2)).sum ≤ (acc.map (·.2.2)).sum + (l.length - p) := by
 intro f; induction f with
 | zero => intro p acc h; simp [scanTok]
 | succ f ih =>
  intro p acc h; rw [scanTok]; split
  ·rename_i hp
   simp only
   split
   ·rename_i he
    have hle := tokF_le (l.drop p); rw [List.length_drop] at hle
    have hg : Good l ((tokF (l.drop p)).1, p, (tokF (l.drop p)).2.1) := by
     refine ⟨?_, by simp only; omega, hp⟩
     simp only
     rw [← he]
    obtain ⟨i1, i2⟩ := ih (p + (tokF (l.drop p)).2.1 + skipB false (l.drop (p + (tokF (l.drop p)).2.1))) (acc ++ [((tokF (l.drop p)).1, p, (tokF (l.drop p)).2.1)]) (by
     intro t ht; rcases List.mem_append.1 ht with ht | ht
     ·exact h t ht
     ·simp at ht; subst ht; exact hg)
    refine ⟨i1, Nat.le_trans i2 ?_⟩
    simp only [List.map_append, List.map_cons, List.map_nil, List.sum_append, List.sum_cons, List.sum_nil]; omega
   ·exact ⟨by simp, by simp⟩
  ·exact ⟨h, by simp only; omega⟩
end again
end Go.Proofs.YtpcihajmcejliabGreatDoor
namespace Go.Proofs.YtpcihajmcejliabGreatDoor
open Go.RowKit
def reservedL : List (List UInt8) := [[100, 111], [101, 108, 115, 101], [103, 105, 118, 101, 115], [104, 105, 103, 104], [105, 102], [105, 109, 112, 111, 114, 116], [105, 110], [108, 111, 119], [109, 111, 100, 117, 108, 101], [111, 117, 116], [112, 114, 111, 99], [112, 117, 98], [114, 101, 116, 117, 114, 110], [119, 104, 105, 108, 101]]
def headB : List UInt8 → Bool
 | [] => false
 | c :: _ => letterB c.toNat
def wordB (l : List UInt8) : Bool := headB l && decide (l.length ≤ 16) && l.all fun c => partB c.toNat
def nameB (l : List UInt8) : Bool := wordB l && !reservedL.contains l
namespace name
theorem runN_all (p : Int → Bool) (l : List UInt8) : runN p l = l.length ↔ l.all (fun c => p c.toNat) = true := by
 unfold runN; induction l with
 | nil => simp
 | cons c r ih =>
  rw [List.takeWhile_cons]; by_cases h : p c.toNat = true
  ·simp only [h, if_true, List.length_cons, List.all_cons, Bool.true_and, ← ih]; omega
  ·simp [h]
theorem scan_word (l : List UInt8) (h : wordB l = true) : scanF l = ([(1, 0, l.length)], 0, 0) := by
 simp only [wordB, Bool.and_eq_true, decide_eq_true_eq] at h; obtain ⟨⟨h1, h2⟩, h3⟩ := h; cases l with
 | nil => simp [headB] at h1
 | cons c r =>
  simp only [headB] at h1; have hs : skipB false (c :: r) = 0 := skip_stop c r (again.part_not c (.inl h1)).1 (again.part_not c (.inl h1)).2; have hr : runN partB (c :: r) = (c :: r).length := (runN_all _ _).2 h3
  have ht : tokF (c :: r) = (1, (c :: r).length, 0) := by
   simp only [tokF, h1, if_true, hr]; rw [if_neg (by omega)]
  rw [scanF, if_neg (by omega), hs, scanTok, if_pos (by simp), List.drop_zero, ht]; simp only [if_true, Nat.zero_add, List.drop_length, skipB, Nat.add_zero, List.nil_append]; show scanTok (r.length + 1) _ _ _ = _
  rw [scanTok, if_neg (by simp)]
theorem word_of_scan (l : List UInt8) (p n : Nat) (a : Nat) (h : scanF l = ([(1, p, n)], 0, a)) (ht : (l.drop p).take n = l) : wordB l = true := by
 have hl : l.length ≤ 3000 := by
  rcases Nat.lt_or_ge 3000 l.length with h' | h'
  ·rw [scanF, if_pos h'] at h; simp at h
  ·exact h'
 rw [scanF, if_neg (by omega)] at h; have hg := (again.scan_good l (l.length + 1) (skipB false l) [] (by simp)).1; rw [h] at hg; obtain ⟨g1, g2, g3⟩ := hg (1, p, n) (by simp); simp only at g1 g2 g3; have hlen := congrArg List.length ht; rw [List.length_take, List.length_drop] at hlen; obtain rfl : p = 0 := by omega
 obtain rfl : n = l.length := by omega
 rw [List.drop_zero] at g1; cases l with
 | nil => simp at g3
 | cons c r =>
  simp only [tokF] at g1; by_cases hc : letterB c.toNat = true
  ·simp only [hc, if_true, Prod.mk.injEq, true_and] at g1
   obtain ⟨k1, k2⟩ := g1
   have h16 : (c :: r).length ≤ 16 := by
    rcases Nat.lt_or_ge 16 (runN partB (c :: r)) with h' | h'
    ·rw [if_pos h'] at k2; simp at k2
    ·omega
   simp only [wordB, headB, hc, Bool.true_and, Bool.and_eq_true, decide_eq_true_eq]; exact ⟨h16, (runN_all _ _).1 k1⟩
  ·have hc' : letterB c.toNat = false := by simpa using hc
   simp only [hc', Bool.false_eq_true, if_false] at g1; split at g1 <;> simp at g1
def row : List (List UInt8) → List UInt8
 | [] => [32]
 | x :: r => 32 :: (x ++ row r)
theorem row_head (ws : List (List UInt8)) : ∃ r, row ws = 32 :: r := by cases ws <;> exact ⟨_, rfl⟩
theorem split_blank (x y a b : List UInt8) (hx : ∀ c ∈ x, c ≠ 32) (hy : ∀ c ∈ y, c ≠ 32) (h : x ++ 32 :: a = y ++ 32 :: b) : x = y := by
 induction x generalizing y with
 | nil =>
  cases y with
  | nil => rfl
  | cons d q => simp at h; exact absurd h.1.symm (hy d (by simp))
 | cons c r ih =>
  cases y with
  | nil => simp at h; exact absurd h.1 (hx c (by simp))
  | cons d q =>
   simp at h
   rw [h.1, ih q (fun c hc => hx c (by simp [hc])) (fun c hc => hy c (by simp [hc])) h.2]
theorem infix_row (s : List UInt8) (hs : ∀ c ∈ s, c ≠ 32) : ∀ ws : List (List UInt8), (∀ x ∈ ws, ∀ c ∈ x, c ≠ 32) → ((32 :: (s ++ [32])) <:+: row ws ↔ s ∈ ws) := by
 intro ws; induction ws with
 | nil =>
  intro _; simp only [row, List.not_mem_nil, iff_false]; intro h; have := h.length_le; simp at this
 | cons x r ih =>
  intro hw; have hx := hw x (by simp); have ihr := ih (fun y hy => hw y (by simp [hy])); obtain ⟨q, hq⟩ := row_head r; constructor
  ·rintro ⟨a, b, hab⟩
   simp only [row] at hab; cases a with
   | nil =>
    have e : s ++ 32 :: b = x ++ 32 :: q := by
     rw [← hq]; simpa using hab
    simp [split_blank s x b q hs hx e]
   | cons c a' =>
    refine List.mem_cons_of_mem _ (ihr.1 ?_)
    have e : a' ++ (32 :: (s ++ [32])) ++ b = x ++ row r := by
     have := hab; simp only [List.cons_append, List.cons.injEq] at this; exact this.2
    clear hab ih ihr; induction x generalizing a' with
    | nil => exact ⟨a', b, by simpa using e⟩
    | cons d x' ihx =>
     cases a' with
     | nil =>
      simp only [List.nil_append, List.cons_append, List.cons.injEq] at e; exact absurd e.1.symm (hx d (by simp))
     | cons c' a'' =>
      simp only [List.cons_append, List.cons.injEq] at e
      exact ihx (fun y hy => by
       rcases List.mem_cons.1 hy with rfl | hy
       ·exact fun c hc => hx c (by simp [hc])
       ·exact hw y (by simp [hy])) (fun c hc => hx c (by simp [hc])) a'' e.2
  ·intro h
   rcases List.mem_cons.1 h with rfl | h
   ·exact ⟨[], q, by simp [row, hq]⟩
   ·obtain ⟨a, b, hab⟩ := ihr.2 h
    exact ⟨32 :: (x ++ a), b, by simp [row, ← hab]⟩
theorem contains_iff (s sub : List UInt8) : Lib.contains s sub = true ↔ sub <:+: s := by
 simp only [Lib.contains, decide_eq_true_eq]; rcases Lib.index_spec s sub with ⟨h1, h2⟩ | ⟨i, h1, h2, h3, _⟩
 ·rw [h1]
  constructor
  ·intro h; omega
  ·rintro ⟨a, b, rfl⟩
   have := h2 a.length (by simp)
   have h3 : Lib.occAt (a ++ sub ++ b) sub a.length = true := by
    rw [Lib.occAt, List.append_assoc, List.drop_left]; exact List.isPrefixOf_iff_prefix.2 ⟨b, rfl⟩
   rw [h3] at this; cases this
 ·rw [h1]
  constructor
  ·intro _
   obtain ⟨b, hb⟩ := List.isPrefixOf_iff_prefix.1 h3; exact ⟨s.take i, b, by rw [List.append_assoc, hb, List.take_append_drop]⟩
  ·intro _; omega
theorem words_row : row reservedL = [32, 100, 111, 32, 101, 108, 115, 101, 32, 103, 105, 118, 101, 115, 32, 104, 105, 103, 104, 32, 105, 102, 32, 105, 109, 112, 111, 114, 116, 32, 105, 110, 32, 108, 111, 119, 32, 109, 111, 100, 117, 108, 101, 32, 111, 117, 116, 32, 112, 114, 111, 99, 32, 112, 117, 98, 32, 114, 101, 116, 117, 114, 110, 32, 119, 104, 105, 108, 101, 32] := by decide
theorem contains_words (l : List UInt8) (h : wordB l = true) : Lib.contains [32, 100, 111, 32, 101, 108, 115, 101, 32, 103, 105, 118, 101, 115, 32, 104, 105, 103, 104, 32, 105, 102, 32, 105, 109, 112, 111, 114, 116, 32, 105, 110, 32, 108, 111, 119, 32, 109, 111, 100, 117, 108, 101, 32, 111, 117, 116, 32, 112, 114, 111, 99, 32, 112, 117, 98, 32, 114, 101, 116, 117, 114, 110, 32, 119, 104, 105, 108, 101, 32] (32 :: (l ++ [32])) = reservedL.contains l := by
 rw [Bool.eq_iff_iff, contains_iff, ← words_row, infix_row l, List.contains_iff_mem]
 ·intro c hc e
  subst e; simp only [wordB, Bool.and_eq_true, List.all_eq_true] at h; exact absurd (h.2 _ hc) (by decide)
 ·have key : ∀ x ∈ reservedL, ∀ c ∈ x, c ≠ 32 := by decide
  exact key
end name
end Go.Proofs.YtpcihajmcejliabGreatDoor
namespace Go.Proofs.YtpcihajmcejliabGreatDoor
open Go.RowKit
inductive Nd where
 | mk (kind : Int) (text : ByteArray) (num : Int) (kids : List Nd)
def Nd.kids : Nd → List Nd
 | .mk _ _ _ l => l
theorem Nd.sizeOf_kid (k : Int) (t : ByteArray) (m : Int) (l : List Nd) (j : Nat) (h : j < l.length) : SizeOf.sizeOf l[j] < SizeOf.sizeOf (Nd.mk k t m l) := by
 have h1 := List.sizeOf_lt_of_mem (List.getElem_mem h); have h2 : SizeOf.sizeOf (Nd.mk k t m l) = 1 + SizeOf.sizeOf k + SizeOf.sizeOf t + SizeOf.sizeOf m + SizeOf.sizeOf l := by simp
 omega
theorem nd_ind {P : Nd → Prop} (h : ∀ k t m l, (∀ x ∈ l, P x) → P (.mk k t m l)) : ∀ x, P x := by
 have : ∀ n x, SizeOf.sizeOf x ≤ n → P x := by
  intro n; induction n with
  | zero =>
   intro x hx; cases x; simp at hx
  | succ n ih =>
   intro x hx; cases x with
   | mk k t m l =>
    refine h k t m l fun y hy => ih y ?_
    obtain ⟨j, hj, rfl⟩ := List.getElem_of_mem hy; have := Nd.sizeOf_kid k t m l j hj; omega
 exact fun x => this _ x (Nat.le_refl _)
def sDot : ByteArray := ⟨#[46]⟩
def sSemi : ByteArray := ⟨#[59]⟩
def sComma : ByteArray := ⟨#[44]⟩
def sEq : ByteArray := ⟨#[61]⟩
def sOpen : ByteArray := ⟨#[40]⟩
def sClose : ByteArray := ⟨#[41]⟩
def sBra : ByteArray := ⟨#[91]⟩
def sKet : ByteArray := ⟨#[93]⟩
def sCurl : ByteArray := ⟨#[123]⟩
def sLruc : ByteArray := ⟨#[125]⟩
def sMinus : ByteArray := ⟨#[45]⟩
def sNot : ByteArray := ⟨#[33]⟩
def sHigh : ByteArray := ⟨#[104, 105, 103, 104]⟩
def sLow : ByteArray := ⟨#[108, 111, 119]⟩
def sDo : ByteArray := ⟨#[100, 111]⟩
def sIf : ByteArray := ⟨#[105, 102]⟩
def sElse : ByteArray := ⟨#[101, 108, 115, 101]⟩
def sWhile : ByteArray := ⟨#[119, 104, 105, 108, 101]⟩
def sOut : ByteArray := ⟨#[111, 117, 116]⟩
def sIn : ByteArray := ⟨#[105, 110]⟩
def sReturn : ByteArray := ⟨#[114, 101, 116, 117, 114, 110]⟩
def sModule : ByteArray := ⟨#[109, 111, 100, 117, 108, 101]⟩
def sImport : ByteArray := ⟨#[105, 109, 112, 111, 114, 116]⟩
def sPub : ByteArray := ⟨#[112, 117, 98]⟩
def sProc : ByteArray := ⟨#[112, 114, 111, 99]⟩
def sGives : ByteArray := ⟨#[103, 105, 118, 101, 115]⟩
def noText : ByteArray := ⟨#[]⟩
def opOf (s : ByteArray) : Int × Int :=
 if s = ⟨#[61, 61]⟩ then (9, 0) else if s = ⟨#[60]⟩ then (8, 0) else if s = ⟨#[43]⟩ then (1, 1) else if s = ⟨#[45]⟩ then (2, 1) else if s = ⟨#[124]⟩ then (7, 1)
 else if s = ⟨#[42]⟩ then (3, 2) else if s = ⟨#[47]⟩ then (4, 2) else if s = ⟨#[37]⟩ then (5, 2) else if s = ⟨#[38]⟩ then (6, 2) else (0, -1)
namespace synw
end synw
end Go.Proofs.YtpcihajmcejliabGreatDoor
namespace Go.Proofs.YtpcihajmcejliabGreatDoor
open Go.RowKit
namespace synw
theorem chg_set {w u : World} {S : Nat} (h : Chg (fun i => i = S) w u) (o : Nat) (v : Value) : Chg (fun i => i = S) w (u.setCell ⟨S, o, none⟩ v) := h.setCell (p := ⟨S, o, none⟩) (fun _ => rfl) v
theorem str_eq {a b : ByteArray} : (a.toList == b.toList) = decide (a = b) := by
 rw [ByteArray.toList_eq, ByteArray.toList_eq, Bool.eq_iff_iff]; simp only [beq_iff_eq, decide_eq_true_eq]; constructor
 ·intro h; exact ByteArray.ext (Array.ext' h)
 ·rintro rfl; rfl
end synw
end Go.Proofs.YtpcihajmcejliabGreatDoor
namespace Go.Proofs.YtpcihajmcejliabGreatDoor
open Go.RowKit
def MaxVar (w : World) : Prop := ∃ m, w.cell? ⟨0, 0, none⟩ = some (.int .i64 m)
theorem MaxVar.chg {S : Nat → Prop} {w w' : World} (h : MaxVar w) (hc : Chg S w w') (hn : ¬ S 0) : MaxVar w' := by
 obtain ⟨m, h⟩ := h; have hl := World.block_lt_of_cell? w _ h; exact ⟨m, by rw [hc.cell hl hn]; exact h⟩
theorem MaxVar.ext {w w' : World} (h : MaxVar w) (hc : Ext w w') : MaxVar w' := h.chg hc id
namespace name
theorem size_list (s : ByteArray) : s.data.toList.length = s.size := by rw [Array.length_toList]; rfl
set_option maxRecDepth 100000 in
set_option maxHeartbeats 1000000 in
theorem isname_any (s : ByteArray) (w : World) (hs : s.size ≤ 9223372036854775807) (hv : ErrVar w) (hm : MaxVar w) :
  Calls Tryz.prog 102 #[.string s] w fun e w' => e = .returned (.bool (nameB s.data.toList)) ∧ Ext w w' := by
 generalize hR : nameB s.data.toList = R; have hRR := hR; rw [nameB] at hRR; have HR := Z_ hRR; clear hR hRR; obtain ⟨T, hT⟩ : ∃ T, scanF s.data.toList = T := ⟨_, rfl⟩; have C1 := Z_ (fun w hv => lexTells.scan_all s w hs hv T hT); have hword : wordB s.data.toList = true → T = ([(1, 0, s.size)], 0, 0) := fun h => by rw [← hT, scan_word _ h, size_list]
 have HT := Z_ hT; obtain ⟨l, c, a⟩ := T; simp only at C1; clear hT; go_enter Tryz.func102, Tryz.ntmps102
 go_wp2_with fail
 refine (C1.out _ hv).mono ?_
 rintro e w1 ⟨v, rfl, ho, hE⟩; have hfalse : wordB s.data.toList = false → R = false := fun h => by rw [← HR.out, h]; rfl
 by_cases hc : c = 0
 ·subst hc
  by_cases hl : l.length = 1
  ·obtain ⟨⟨kd, p, n⟩, rfl⟩ := List.length_eq_one_iff.1 hl
   obtain ⟨g, cap, rfl⟩ : ∃ g cap, v = .slice (some ⟨g, 0, none⟩) 1 cap := by
    rcases ho.2 with ⟨_, h⟩ | ⟨g, cap, cur, rfl, _⟩
    ·cases h
    ·exact ⟨g, cap, rfl⟩
   have a0 : w1.cell? ⟨g, 0, none⟩ = some (.int .i64 kd) := (ho.cellAt 0 (by decide)).trans rfl; have a1 : w1.cell? ⟨g, 1, none⟩ = some (.string (s.extract p (p + n))) := (ho.cellAt 1 (by decide)).trans rfl; have hg : g < w1.heap.size := (ho.lt g rfl).2; have hE1 := Z_ (hE.alloc (.cells #[.int .i64 0, .int .i64 a] 68)); by_cases hk : kd = 1
   ·subst hk
    by_cases ht : (s.data.toList.drop p).take n = s.data.toList
    ·have hw := word_of_scan _ p n a HT.out ht
     have hx : s.extract p (p + n) = s := by
      apply ByteArray.ext
      apply Array.ext'
      rw [lex.extract_list]; exact ht
     have hcw := contains_words _ hw; have hR2 : R = !reservedL.contains s.data.toList := by rw [← HR.out, hw]; rfl
     have h16 : s.size ≤ 16 := by
      simp only [wordB, Bool.and_eq_true, decide_eq_true_eq, size_list] at hw; exact hw.1.2
     obtain ⟨B, hB⟩ : ∃ B, reservedL.contains s.data.toList = B := ⟨_, rfl⟩; rw [hB] at hcw hR2; obtain ⟨m, hm2⟩ := (hm.ext (hE.alloc (.cells #[.int .i64 0, .int .i64 a] 68)))
     have hsub : ((⟨#[32]⟩ : ByteArray) ++ s ++ ⟨#[32]⟩).data.toList = 32 :: (s.data.toList ++ [32]) := by
      simp [ByteArray.data_append]
     have cc := Tryz.strings_Contains ⟨#[32, 100, 111, 32, 101, 108, 115, 101, 32, 103, 105, 118, 101, 115, 32, 104, 105, 103, 104, 32, 105, 102, 32, 105, 109, 112, 111, 114, 116, 32, 105, 110, 32, 108, 111, 119, 32, 109, 111, 100, 117, 108, 101, 32, 111, 117, 116, 32, 112, 114, 111, 99, 32, 112, 117, 98, 32, 114, 101, 116, 117, 114, 110, 32, 119, 104, 105, 108, 101, 32]⟩ ((⟨#[32]⟩ : ByteArray) ++ s ++ ⟨#[32]⟩) m _ (by decide) hm2; rw [hsub] at cc; have CC := Z_ cc; have HCW := Z_ hcw; rw [hx] at a1; clear cc hm2 hsub hcw hB ho hx hw ht hword hfalse hl; go_wp2_with fail
     refine CC.out.mono ?_
     rintro e w' ⟨rfl, rfl⟩; rw [HCW.out]; go_wp2_with fail
     go_ret
     exact ⟨ret_bool hR2.symm, hE1.out⟩
    ·have hnw : wordB s.data.toList = false := by
      cases hw : wordB s.data.toList
      ·rfl
      ·have := hword hw
       have e1 := congrArg (fun T : List Tok × Int × Nat => (T.1.map (·.2.1), T.1.map (·.2.2))) this; simp at e1
       obtain ⟨rfl, rfl⟩ := e1; exact absurd (by rw [List.drop_zero, List.take_of_length_le (by rw [size_list]; exact Nat.le_refl _)]) ht
     have hF := hfalse hnw; obtain ⟨x, hx⟩ : ∃ x, s.extract p (p + n) = x := ⟨_, rfl⟩
     have hxs : x ≠ s := by
      intro h; rw [h] at hx; exact ht (by rw [← lex.extract_list, hx])
     rw [hx] at a1
     have h2 : (x.toList == s.toList) = false := by
      rw [ByteArray.toList_eq, ByteArray.toList_eq, beq_eq_false_iff_ne]; intro h; exact hxs (ByteArray.ext (Array.ext' h))
     have h3 : (x.data.toList == s.data.toList) = false := by
      rw [beq_eq_false_iff_ne]; intro h; exact hxs (ByteArray.ext (Array.ext' h))
     clear ho hx hnw hword hfalse hl ht hxs; go_wp2_with fail
     go_ret
     exact ⟨ret_bool hF.symm, hE1.out⟩
   ·have hF := hfalse (by
     cases hw : wordB s.data.toList
     ·rfl
     ·have := hword hw
      have e1 := congrArg (fun T : List Tok × Int × Nat => T.1.map (·.1)) this; simp at e1
      exact absurd e1 hk)
    have hkd : (kd == 1) = false := by rw [beq_eq_false_iff_ne]; exact hk
    clear ho hword hfalse hl hk; go_wp2_with fail
    go_ret
    exact ⟨ret_bool hF.symm, hE1.out⟩
  ·have hF := hfalse (by
    cases hw : wordB s.data.toList
    ·rfl
    ·have := hword hw
     simp only [Prod.mk.injEq] at this; rw [this.1] at hl; exact absurd rfl hl)
   obtain ⟨g, n, cap, rfl, hn⟩ : ∃ g n cap, v = .slice g n cap ∧ n = l.length := by
    rcases ho.2 with ⟨rfl, h⟩ | ⟨g, cap, cur, rfl, _⟩
    ·exact ⟨_, _, _, rfl, h.symm⟩
    ·exact ⟨_, _, _, rfl, rfl⟩
   have hnl : ((n : Int) == 1) = false := by rw [beq_eq_false_iff_ne]; omega
   clear ho hword hfalse hl hn; go_wp2_with fail
   go_ret
   exact ⟨ret_bool hF.symm, hE.alloc _⟩
 ·have hF := hfalse (by
   cases hw : wordB s.data.toList
   ·rfl
   ·have := hword hw
    simp only [Prod.mk.injEq] at this; exact absurd this.2.1 hc)
  have hcc : (c == 0) = false := by rw [beq_eq_false_iff_ne]; exact hc
  clear ho hword hfalse hc; go_wp2_with fail
  go_ret
  exact ⟨ret_bool hF.symm, hE.alloc _⟩
end name
namespace rname
set_option maxRecDepth 100000 in
set_option maxHeartbeats 1000000 in
theorem reserved_any (w : World) :
  Calls Tryz.prog 226 #[] w fun e w' => ∃ g, e = .returned (.slice (some ⟨g, 0, none⟩) 14 14) ∧ (∀ (j : Nat) (hj : j < reservedL.length), w'.cell? ⟨g, j, none⟩ = some (.string ⟨reservedL[j].toArray⟩)) ∧ Ext w w' := by
 have hB : Blk (w.alloc (.cells (reservedL.map fun l => Value.string ⟨l.toArray⟩).toArray 9)) w.heap.size (reservedL.map fun l => Value.string ⟨l.toArray⟩).toArray 9 := Blk.made _ _ _; have hE : Ext w (w.alloc (.cells (reservedL.map fun l => Value.string ⟨l.toArray⟩).toArray 9)) := (Chg.refl _ w).alloc _
 have hcell : ∀ (j : Nat) (hj : j < reservedL.length), (w.alloc (.cells (reservedL.map fun l => Value.string ⟨l.toArray⟩).toArray 9)).cell? ⟨w.heap.size, j, none⟩ = some (.string ⟨reservedL[j].toArray⟩) := by
  intro j hj; rw [hB.cell]; simp [hj]
 have HF := Z_ hE; have HC := Z_ hcell; clear hB hE hcell; go_enter Tryz.func226, Tryz.ntmps226
 go_wp2
 go_ret
 exact ⟨_, rfl, HC.out, HF.out⟩
theorem all_take (s : ByteArray) (k : Nat) (h : k < s.size) : (s.data.toList.take (k + 1)).all (fun c => partB c.toNat) = ((s.data.toList.take k).all (fun c => partB c.toNat) && partB s[k].toNat) := by
 have e : s.data.toList[k]'(by simpa using h) = s[k] := rfl; rw [List.take_succ_eq_append_getElem (by simpa using h), e]; simp
set_option maxRecDepth 100000 in
set_option maxHeartbeats 2000000 in
theorem name_any (s : ByteArray) (w : World) (hs : s.size ≤ 9223372036854775807) :
  Calls Tryz.prog 159 #[.string s] w fun e w' => e = .returned (.bool (nameB s.data.toList)) ∧ Ext w w' := by
 generalize hR : nameB s.data.toList = R; have HR := Z_ hR; clear hR; have hsz := name.size_list s; by_cases h1 : 1 ≤ s.size ∧ s.size ≤ 16
 ·obtain ⟨h1, h16⟩ := h1
  have hhd : headB s.data.toList = letterB s[0].toNat := by
   have := lex.drop_cons s 0 (by omega); rw [List.drop_zero] at this; rw [this]; rfl
  cases hl : letterB s[0].toNat
  ·have hF : R = false := by rw [← HR.out, nameB, wordB, hhd, hl]; rfl
   subst hF; have cl := rlex.letter_any s[0].toNat; rw [hl] at cl; have CL := Z_ cl; clear cl hl hhd; go_enter Tryz.func159, Tryz.ntmps159
   go_wp2_with (go_at_call 154; refine (CL.out _).mono ?_; rintro e w' ⟨rfl, rfl⟩)
   go_ret
   exact ⟨rfl, Chg.refl _ _⟩
  ·have hN : R = (s.data.toList.all (fun c => partB c.toNat) && !reservedL.contains s.data.toList) := by
    rw [← HR.out, nameB, wordB, hhd, hl]; have h16' : s.data.toList.length ≤ 16 := by omega
    rw [decide_eq_true h16', Bool.true_and, Bool.true_and]
   have HN := Z_ hN; have cl := rlex.letter_any s[0].toNat; rw [hl] at cl; have CL := Z_ cl; clear cl hl hhd hN; go_enter Tryz.func159, Tryz.ntmps159
   go_wp2_with (go_at_call 154; refine (CL.out _).mono ?_; rintro e w' ⟨rfl, rfl⟩)
   go_loop [3] (fun i => ∃ k : Nat, k ≤ s.size ∧ i = .int .i64 k ∧ Hid ((s.data.toList.take k).all (fun c => partB c.toNat) = true)) (fun i => s.size - (intOf i).toNat)
   case atStart => exact ⟨0, Nat.zero_le _, rfl, rfl⟩
   case round =>
    obtain ⟨k, hk, rfl, hrel⟩ := hrel; by_cases hlt : k < s.size
    ·have hki : (k : Int) < (s.size : Int) := by omega
     have ht := all_take s k hlt; rw [hrel.out, Bool.true_and] at ht; have cc := rlex.inside_any s[k].toNat; cases hb : partB s[k].toNat
     ·rw [hb] at cc ht
      have CC := Z_ cc
      have hF : R = false := by
       rw [HN.out]; cases hq : s.data.toList.all (fun c => partB c.toNat)
       ·rfl
       ·have : (s.data.toList.take (k + 1)).all (fun c => partB c.toNat) = true := by
         simp only [List.all_eq_true] at hq ⊢; exact fun x hx => hq x (List.mem_of_mem_take hx)
        rw [ht] at this; cases this
      have HF := Z_ hF; clear cc hb ht hF; go_wp2_with (go_at_call 153; refine (CC.out _).mono ?_; rintro e w' ⟨rfl, rfl⟩)
      go_ret
      exact ⟨ret_bool HF.out.symm, Chg.refl _ _⟩
     ·rw [hb] at cc ht
      have CC := Z_ cc; have HT := Z_ ht; clear cc hb ht; go_wp2_with (go_at_call 153; refine (CC.out _).mono ?_; rintro e w' ⟨rfl, rfl⟩)
      go_round
      case rel => exact ⟨k + 1, by omega, by go_num, HT.out⟩
      case measure => simp [intOf]; omega
    ·obtain rfl : k = s.size := by omega
     have hN2 : R = !reservedL.contains s.data.toList := by
      rw [HN.out]; have := hrel.out; rw [List.take_of_length_le (by omega)] at this; rw [this]; rfl
     have HN2 := Z_ hN2; clear hN2 hrel; go_wp2_with fail
     refine (reserved_any _).mono ?_
     rintro e w1 ⟨g, rfl, hcell, hE⟩; have HC := Z_ hcell; have HNE := Z_ (List.contains_iff_mem : reservedL.contains s.data.toList = true ↔ s.data.toList ∈ reservedL); have hlen : reservedL.length = 14 := rfl; clear hcell; generalize reservedL = L at *; have HL := Z_ hlen; clear hlen; go_wp2_with fail
     go_loop [5] (fun i => ∃ j : Nat, j ≤ 14 ∧ i = .int .i64 j ∧ Hid (∀ (q : Nat) (hq : q < L.length), q < j → L[q] ≠ s.data.toList)) (fun i => 14 - (intOf i).toNat)
     case atStart => exact ⟨0, Nat.zero_le _, rfl, fun q hq h => by omega⟩
     case round =>
      obtain ⟨j, hj, rfl, hrel⟩ := hrel; by_cases hlt : j < 14
      ·have hji : (j : Int) < 14 := by omega
       have hjl : j < L.length := by rw [HL.out]; exact hlt
       have hc := HC.out j hjl; obtain ⟨x, hx⟩ : ∃ x, L[j] = x := ⟨_, rfl⟩; rw [hx] at hc; have HX := Z_ hx; clear hx; by_cases he : x = s.data.toList
       ·have hF : R = false := by
         rw [HN2.out]; have : L.contains s.data.toList = true := HNE.out.2 (by rw [← he, ← HX.out]; exact List.getElem_mem hjl); rw [this]; rfl
        have HF := Z_ hF; have h2 : (x == s.toList) = true := by rw [ByteArray.toList_eq]; simpa using he
        clear he hF; go_wp2_with fail
        go_ret
        exact ⟨ret_bool HF.out.symm, hE⟩
       ·have HE := Z_ he
        have h2 : (x == s.toList) = false := by rw [ByteArray.toList_eq]; simpa using he
        clear he; go_wp2_with fail
        go_round
        case rel =>
         refine ⟨j + 1, by omega, by go_num, fun q hq h => ?_⟩
         by_cases e : q = j
         ·subst e; rw [HX.out]; exact HE.out
         ·exact hrel.out q hq (by omega)
        case measure => simp [intOf]; omega
      ·obtain rfl : j = 14 := by omega
       have hF : R = true := by
        rw [HN2.out]; cases hq : L.contains s.data.toList
        ·rfl
        ·obtain ⟨q, hq2, e⟩ := List.getElem_of_mem (HNE.out.1 hq)
         exact absurd e (hrel.out q hq2 (by have := HL.out; omega))
       have HF := Z_ hF; clear hF; go_wp2_with fail
       go_ret
       exact ⟨ret_bool HF.out.symm, hE⟩
 ·have hF : R = false := by
   rw [← HR.out, nameB, wordB]; cases hh : headB s.data.toList
   ·rfl
   ·have : 1 ≤ s.size := by
     rw [← hsz]; cases hq : s.data.toList with
     | nil => rw [hq] at hh; simp [headB] at hh
     | cons c r => simp
    have h16' : ¬ s.data.toList.length ≤ 16 := by omega
    rw [decide_eq_false h16']; rfl
  subst hF; go_enter Tryz.func159, Tryz.ntmps159
  go_wp2_with fail
  all_goals go_ret
  all_goals exact ⟨rfl, Chg.refl _ _⟩
end rname
end Go.Proofs.YtpcihajmcejliabGreatDoor
