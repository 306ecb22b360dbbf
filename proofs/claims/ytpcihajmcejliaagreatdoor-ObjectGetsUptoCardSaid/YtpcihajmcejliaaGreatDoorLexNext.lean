/- The walk of scanner.next. -/
import Derived.Test.YtpcihajmcejliaaGreatDoorLexTok
namespace Go.Proofs.YtpcihajmcejliaaGreatDoor
open Go.RowKit
def signsL : List UInt8 := [123, 125, 40, 41, 91, 93, 59, 44, 46, 61, 60, 43, 45, 42, 47, 37, 38, 124, 33]
def signN (l : List UInt8) : Nat := if Lib.hasPrefix l [61, 61] = true then 2 else match l with | [] => 0 | c :: _ => if signsL.contains c then 1 else 0
/-- the token that begins here: its kind, how long it is, what is wrong -/
def tokF (l : List UInt8) : Int × Nat × Int :=
  match l with
  | [] => (0, 0, 2)
  | c :: _ =>
    if letterB c.toNat then (1, runN partB l, if 16 < runN partB l then 1 else 0)
    else if digitB c.toNat then (2, runN partB l, numeralF (l.take (runN partB l)))
    else (3, signN l, if signN l = 0 then 2 else 0)
namespace lex
theorem extract_list (s : ByteArray) (k n : Nat) : (s.extract k (k + n)).data.toList = (s.data.toList.drop k).take n := by
  simp [ByteArray.data_extract]
theorem extract_end (s : ByteArray) (k : Nat) : (s.extract k s.size).data.toList = s.data.toList.drop k := by
  have e : s.data.size = s.size := rfl
  simp only [ByteArray.data_extract, Array.toList_extract, List.extract_eq_take_drop]
  rw [List.take_of_length_le (by simp)]
def NextPost (p : Nat) (s : ByteArray) (k : Nat) (c f : Int) (w : World) (T : Int × Nat × Int) (e : Ending) (w' : World) : Prop :=
  e = .returned (.tuple #[if T.2.2 = 0 then tokV T.1 (s.extract k (k + T.2.1)) 0 else tokV 0 ⟨#[]⟩ 0, .int .i64 T.2.2]) ∧ ∃ k' : Nat, (T.2.2 = 0 → k' = k + T.2.1) ∧ k' ≤ s.size ∧ Scn w' p s k' c f ∧ Chg (fun i => i = p) w w'
theorem fin3 {w : World} {p b : Nat} {s : ByteArray} {k : Nat} {c f : Int} (h : Scn w p s k c f) (hp : p ≠ b) (x y z : Value) : Scn (((w.setCell ⟨b, 0, none⟩ x).setCell ⟨b, 1, none⟩ y).setCell ⟨b, 2, none⟩ z) p s k c f :=
  ((h.setOther hp _).setOther hp _).setOther hp _
theorem chg3 {S : Nat → Prop} {a w : World} {b : Nat} (h : Chg S a w) (hb : a.heap.size ≤ b) (x y z : Value) : Chg S a (((w.setCell ⟨b, 0, none⟩ x).setCell ⟨b, 1, none⟩ y).setCell ⟨b, 2, none⟩ z) :=
  ((h.setNew hb _).setNew hb _).setNew hb _
set_option maxRecDepth 100000 in
set_option maxHeartbeats 1000000 in
theorem next_letter (p : Nat) (s : ByteArray) (k : Nat) (c f : Int) (w : World) (h : Scn w p s k c f) (hk : k < s.size) (hs : s.size ≤ 100000) (hl : letterB s[k].toNat = true) :
    Calls Tryz.prog 155 #[.pointer (some ⟨p, 0, none⟩)] w (NextPost p s k c f w (tokF (s.data.toList.drop k))) := by
  generalize hT : tokF (s.data.toList.drop k) = T
  rw [drop_cons s k hk] at hT
  simp only [tokF, hl, if_true] at hT
  rw [← drop_cons s k hk] at hT
  have hp := h.lt
  have hpn : p ≠ w.heap.size := by omega
  have c0 := h.cell 0
  have c1 := h.cell 1
  have f1 := h.frozen 1
  simp only [List.getElem?_toArray, List.getElem?_cons_zero, List.getElem?_cons_succ] at c0 c1
  have cc := letter_any (s[k].toNat : Int)
  rw [hl] at cc
  have CC := Lib.hid cc
  have hroom := runN_room partB s k (by omega)
  obtain ⟨n, hn⟩ : ∃ n, runN partB (s.data.toList.drop k) = n := ⟨_, rfl⟩
  have C2 := Lib.hid (fun w' h' => run_part p s k c f w' h' (by omega) hs)
  rw [hn] at hT hroom C2
  clear cc hl hn
  by_cases h16 : 16 < n
  · rw [if_pos h16] at hT
    have HT := Lib.hid hT
    clear hT
    go_enter Tryz.func155, Tryz.ntmps155
    go_wp2_with fail
    go_quiet (fail)
    go_wp2_with (first | (go_at_call 194; refine (CC.out _).mono ?_; rintro e w' ⟨rfl, rfl⟩) | (go_at_call 191; refine (C2.out _ ((h.alloc _).drewN _)).mono ?_; rintro e w' ⟨rfl, hS, hC⟩; have hK := ((Blk.made w _ _).drewN _).chg hC (fun e => hpn e.symm); have hKc := hK.cell; have hKf := hK.frozen))
    refine bodyPost_ret (results_cell2 rfl _ _ rfl (((hK.set 0 _).set 1 _).set 2 _) Tryz.underlying209 rfl (by kernel_rfl)) rfl ?_
    rw [← HT.out]
    exact ⟨rfl, k + n, fun _ => rfl, hroom, fin3 hS hpn _ _ _, chg3 ((((Chg.refl _ w).alloc _).drewN _).then hC) (Nat.le_refl _) _ _ _⟩
  · rw [if_neg h16] at hT
    have HT := Lib.hid hT
    clear hT
    go_enter Tryz.func155, Tryz.ntmps155
    go_wp2_with fail
    go_quiet (fail)
    go_wp2_with (first | (go_at_call 194; refine (CC.out _).mono ?_; rintro e w' ⟨rfl, rfl⟩) | (go_at_call 191; refine (C2.out _ ((h.alloc _).drewN _)).mono ?_; rintro e w' ⟨rfl, hS, hC⟩; have hK := ((Blk.made w _ _).drewN _).chg hC (fun e => hpn e.symm); have hKc := hK.cell; have hKf := hK.frozen))
    refine bodyPost_ret (results_cell2 rfl _ _ rfl (((hK.set 0 _).set 1 _).set 2 _) Tryz.underlying209 rfl (by kernel_rfl)) rfl ?_
    rw [← HT.out]
    exact ⟨rfl, k + n, fun _ => rfl, hroom, fin3 hS hpn _ _ _, chg3 ((((Chg.refl _ w).alloc _).drewN _).then hC) (Nat.le_refl _) _ _ _⟩
set_option maxRecDepth 100000 in
set_option maxHeartbeats 1000000 in
theorem next_digit (p : Nat) (s : ByteArray) (k : Nat) (c f : Int) (w : World) (h : Scn w p s k c f) (hk : k < s.size) (hs : s.size ≤ 100000) (hl : letterB s[k].toNat = false) (hd : digitB s[k].toNat = true) (hv : ErrVar w) (hvp : p ≠ 2) :
    Calls Tryz.prog 155 #[.pointer (some ⟨p, 0, none⟩)] w (NextPost p s k c f w (tokF (s.data.toList.drop k))) := by
  generalize hT : tokF (s.data.toList.drop k) = T
  rw [drop_cons s k hk] at hT
  simp only [tokF, hl, hd, Bool.false_eq_true, if_false, if_true] at hT
  rw [← drop_cons s k hk] at hT
  have hp := h.lt
  have hpn : p ≠ w.heap.size := by omega
  have c0 := h.cell 0
  have c1 := h.cell 1
  have f1 := h.frozen 1
  simp only [List.getElem?_toArray, List.getElem?_cons_zero, List.getElem?_cons_succ] at c0 c1
  have cc := letter_any (s[k].toNat : Int)
  rw [hl] at cc
  have CC := Lib.hid cc
  have cd := digit_any (s[k].toNat : Int)
  rw [hd] at cd
  have CD := Lib.hid cd
  have hroom := runN_room partB s k (by omega)
  have hpos : 0 < runN partB (s.data.toList.drop k) := by
    rw [runN_step partB s k hk (by unfold partB; rw [hd]; simp)]; omega
  obtain ⟨n, hn⟩ : ∃ n, runN partB (s.data.toList.drop k) = n := ⟨_, rfl⟩
  have C2 := Lib.hid (fun w' h' => run_part p s k c f w' h' (by omega) hs)
  rw [hn] at hT hroom C2 hpos
  have c3 := fun w' hv' => number_any (s.extract k (k + n)) w' (by simp; omega) (by simp; omega) hv'
  rw [extract_list] at c3
  clear cc cd hl hd hn
  by_cases h0 : numeralF ((s.data.toList.drop k).take n) = 0
  · rw [if_pos h0, h0] at c3
    rw [h0] at hT
    have C3 := Lib.hid c3
    have HT := Lib.hid hT
    clear hT c3 h0
    go_enter Tryz.func155, Tryz.ntmps155
    go_wp2_with fail
    go_quiet (fail)
    go_wp2_with (first | (go_at_call 194; refine (CC.out _).mono ?_; rintro e w' ⟨rfl, rfl⟩) | (go_at_call 196; refine (CD.out _).mono ?_; rintro e w' ⟨rfl, rfl⟩) | (go_at_call 191; refine (C2.out _ ((h.alloc _).drewN _)).mono ?_; rintro e w' ⟨rfl, hS, hC⟩; have hK := ((Blk.made w _ _).drewN _).chg hC (fun e => hpn e.symm)) | (go_at_call 197; refine (C3.out _ ((((hv.ext ((Chg.refl _ w).alloc _)).ext ((Chg.refl _ _).drewN _)).chg hC (fun e => hvp e.symm)))).mono ?_; rintro e w3 ⟨rfl, hE⟩; have hK2 := hK.ext hE; have hS2 := hS.ext hE; have hKc := hK2.cell; have hKf := hK2.frozen; unfold tokV))
    refine bodyPost_ret (results_cell2 rfl _ _ rfl (((hK2.set 0 _).set 1 _).set 2 _) Tryz.underlying209 rfl (by kernel_rfl)) rfl ?_
    rw [← HT.out]
    exact ⟨rfl, k + n, fun _ => rfl, hroom, fin3 hS2 hpn _ _ _, chg3 (((((Chg.refl _ w).alloc _).drewN _).then hC).ext hE) (Nat.le_refl _) _ _ _⟩
  · obtain ⟨q, hq⟩ : ∃ q, numeralF ((s.data.toList.drop k).take n) = q := ⟨_, rfl⟩
    rw [if_neg h0] at c3
    rw [hq] at hT c3 h0
    have C3 := Lib.hid c3
    have HT := Lib.hid hT
    have H0 := Lib.hid h0
    clear hT c3 h0 hq
    go_enter Tryz.func155, Tryz.ntmps155
    go_wp2_with fail
    go_quiet (fail)
    go_wp2_with (first | (go_at_call 194; refine (CC.out _).mono ?_; rintro e w' ⟨rfl, rfl⟩) | (go_at_call 196; refine (CD.out _).mono ?_; rintro e w' ⟨rfl, rfl⟩) | (go_at_call 191; refine (C2.out _ ((h.alloc _).drewN _)).mono ?_; rintro e w' ⟨rfl, hS, hC⟩; have hK := ((Blk.made w _ _).drewN _).chg hC (fun e => hpn e.symm)) | (go_at_call 197; refine (C3.out _ ((((hv.ext ((Chg.refl _ w).alloc _)).ext ((Chg.refl _ _).drewN _)).chg hC (fun e => hvp e.symm)))).mono ?_; rintro e w3 ⟨rfl, hE⟩; have hK2 := hK.ext hE; have hS2 := hS.ext hE; have hKc := hK2.cell; have hKf := hK2.frozen; unfold tokV))
    refine bodyPost_ret (results_cell2 rfl _ _ rfl (((hK2.set 0 _).set 1 _).set 2 _) Tryz.underlying209 rfl (by kernel_rfl)) rfl ?_
    rw [← HT.out]
    refine ⟨?_, k + n, fun _ => rfl, hroom, fin3 hS2 hpn _ _ _, chg3 (((((Chg.refl _ w).alloc _).drewN _).then hC).ext hE) (Nat.le_refl _) _ _ _⟩
    rw [if_neg H0.out]
    rfl
theorem contains_index (c : UInt8) (l : List UInt8) : 0 ≤ Lib.indexByte l c ↔ l.contains c = true := by
  have key : ∀ l : List UInt8, -1 ≤ Lib.indexByte l c ∧ (0 ≤ Lib.indexByte l c ↔ l.contains c = true) := by
    intro l
    induction l with
    | nil => simp [Lib.indexByte]
    | cons b r ih =>
      obtain ⟨h1, h2⟩ := ih
      simp only [Lib.indexByte, List.contains_cons, Bool.or_eq_true, beq_iff_eq]
      by_cases hb : b = c
      · subst hb; simp
      · simp only [hb, Ne.symm hb, if_false, false_or, ← h2]
        by_cases hm : Lib.indexByte r c = -1
        · simp [hm]
        · simp only [hm, if_false]; omega
  exact (key l).2
theorem encode_ascii (c : UInt8) (h : c.toNat < 128) : Utf8.encode (c.toNat : Int) = ⟨#[c]⟩ := by
  have hv : Utf8.valid (c.toNat : Int) = true := by simp [Utf8.valid]; omega
  simp only [Utf8.encode, hv, if_true, Int.toNat_natCast]
  rw [if_pos h]
  simp
theorem wrap32_byte (c : UInt8) : wrap32 (c.toNat : Int) = c.toNat := by
  have := c.toNat_lt
  unfold wrap32
  omega
theorem one_byte (s : ByteArray) (k : Nat) (hk : k < s.size) : (⟨#[s[k]]⟩ : ByteArray) = s.extract k (k + 1) := by
  apply ByteArray.ext
  apply Array.ext'
  rw [extract_list, drop_cons s k hk]
  rfl
theorem two_bytes (s : ByteArray) (k : Nat) (h : Lib.hasPrefix (s.data.toList.drop k) [61, 61] = true) : (⟨#[61, 61]⟩ : ByteArray) = s.extract k (k + 2) ∧ k + 2 ≤ s.size := by
  have h' : [61, 61] <+: s.data.toList.drop k := List.isPrefixOf_iff_prefix.1 h
  obtain ⟨r, hr⟩ := h'
  have hl : (s.data.toList.drop k).length = 2 + r.length := by rw [← hr]; simp; omega
  have e : s.data.size = s.size := rfl
  simp only [List.length_drop, Array.length_toList] at hl
  refine ⟨?_, by omega⟩
  apply ByteArray.ext
  apply Array.ext'
  rw [extract_list, ← hr]
  rfl
theorem two_first (l : List UInt8) (h : Lib.hasPrefix l [61, 61] = true) : ∃ r, l = 61 :: r := by
  obtain ⟨r, hr⟩ := List.isPrefixOf_iff_prefix.1 h
  exact ⟨_, hr.symm⟩
theorem sign_ascii (c : UInt8) (h : signsL.contains c = true) : c.toNat < 128 := by
  have key : ∀ c ∈ signsL, c.toNat < 128 := by decide
  exact key c (by simpa using h)
set_option maxRecDepth 100000 in
set_option maxHeartbeats 1000000 in
theorem next_sign (p : Nat) (s : ByteArray) (k : Nat) (c f : Int) (w : World) (h : Scn w p s k c f) (hk : k < s.size) (hs : s.size ≤ 100000) (hl : letterB s[k].toNat = false) (hd : digitB s[k].toNat = false) :
    Calls Tryz.prog 155 #[.pointer (some ⟨p, 0, none⟩)] w (NextPost p s k c f w (tokF (s.data.toList.drop k))) := by
  generalize hT : tokF (s.data.toList.drop k) = T
  rw [drop_cons s k hk] at hT
  simp only [tokF, hl, hd, Bool.false_eq_true, if_false] at hT
  rw [← drop_cons s k hk] at hT
  have hp := h.lt
  have hpn : p ≠ w.heap.size := by omega
  have c0 := h.cell 0
  have c1 := h.cell 1
  have f1 := h.frozen 1
  simp only [List.getElem?_toArray, List.getElem?_cons_zero, List.getElem?_cons_succ] at c0 c1
  have cc := letter_any (s[k].toNat : Int)
  rw [hl] at cc
  have CC := Lib.hid cc
  have cd := digit_any (s[k].toNat : Int)
  rw [hd] at cd
  have CD := Lib.hid cd
  have ci := fun w => (Tryz.strings_IndexByte ⟨#[123, 125, 40, 41, 91, 93, 59, 44, 46, 61, 60, 43, 45, 42, 47, 37, 38, 124, 33]⟩ (s[k].toNat : Int) w)
  have cx : (s[k].toNat : Int).toNat.toUInt8 = s[k] := by simp
  rw [cx] at ci
  have hcon := contains_index s[k] signsL
  obtain ⟨I, hI⟩ : ∃ I, Lib.indexByte signsL s[k] = I := ⟨_, rfl⟩
  have ci : ∀ w, Calls Tryz.prog 198 #[.string ⟨#[123, 125, 40, 41, 91, 93, 59, 44, 46, 61, 60, 43, 45, 42, 47, 37, 38, 124, 33]⟩, .int .u8 s[k].toNat] w fun e w' => e = .returned (.int .i64 I) ∧ w' = w := by rw [← hI]; exact ci
  have CI := Lib.hid ci
  rw [hI] at hcon
  clear cc cd hl hd ci cx hI
  have cp := fun w => Tryz.strings_HasPrefix (s.extract k s.size) ⟨#[61, 61]⟩ w
  rw [extract_end] at cp
  obtain ⟨B, hB⟩ : ∃ B, Lib.hasPrefix (s.data.toList.drop k) [61, 61] = B := ⟨_, rfl⟩
  have cp : ∀ w, Calls Tryz.prog 199 #[.string (s.extract k s.size), .string ⟨#[61, 61]⟩] w fun e w' => e = .returned (.bool B) ∧ w' = w := by rw [← hB]; exact cp
  have CP := Lib.hid cp
  clear cp
  cases hcn : signsL.contains s[k]
  · rw [hcn] at hcon
    have hI0 : I < 0 := by
      rcases Int.lt_or_le I 0 with h | h
      · exact h
      · exact absurd (hcon.1 h) (by simp)
    have hB' : B = false := by
      cases B
      · rfl
      · obtain ⟨r, hr⟩ := two_first _ hB
        rw [drop_cons s k hk] at hr
        injection hr with e1 _
        rw [e1] at hcn
        exact absurd hcn (by decide)
    have hsn : signN (s.data.toList.drop k) = 0 := by
      unfold signN
      rw [hB, hB', drop_cons s k hk]
      simp only [Bool.false_eq_true, if_false, hcn]
    rw [hsn] at hT
    have HT := Lib.hid hT
    clear hT hsn hB' hB hcn hcon CP
    go_enter Tryz.func155, Tryz.ntmps155
    go_wp2_with fail
    go_quiet (fail)
    go_wp2_with (first | (go_at_call 194; refine (CC.out _).mono ?_; rintro e w' ⟨rfl, rfl⟩) | (go_at_call 196; refine (CD.out _).mono ?_; rintro e w' ⟨rfl, rfl⟩) | (go_at_call 198; refine (CI.out _).mono ?_; rintro e w' ⟨rfl, rfl⟩))
    refine bodyPost_ret (results_cell2 rfl _ _ rfl (((((Blk.made w _ _).drewN _).set 0 _).set 1 _).set 2 _) Tryz.underlying209 rfl (by kernel_rfl)) rfl ?_
    rw [← HT.out]
    exact ⟨rfl, k, fun h => by simp at h, by omega, fin3 ((h.alloc _).drewN _) hpn _ _ _, chg3 (((Chg.refl _ w).alloc _).drewN _) (Nat.le_refl _) _ _ _⟩
  · rw [hcn] at hcon
    have hkI : (k : Int) ≤ (s.size : Int) := by omega
    have hI0 : 0 ≤ I := hcon.2 rfl
    have hasc := sign_ascii _ hcn
    cases B
    · have hsn : signN (s.data.toList.drop k) = 1 := by
        unfold signN
        rw [hB, drop_cons s k hk]
        simp only [Bool.false_eq_true, if_false, hcn, if_true]
      rw [hsn] at hT
      have HT := Lib.hid hT
      have HE := Lib.hid (encode_ascii _ hasc)
      have H1 := Lib.hid (one_byte s k hk)
      clear hT hsn hB hcn hcon hasc
      go_enter Tryz.func155, Tryz.ntmps155
      go_wp2_with fail
      go_quiet (fail)
      generalize s[k] = cb at *
      have he := HE.out
      go_wp2_with (first | (go_at_call 194; refine (CC.out _).mono ?_; rintro e w' ⟨rfl, rfl⟩) | (go_at_call 196; refine (CD.out _).mono ?_; rintro e w' ⟨rfl, rfl⟩) | (go_at_call 198; refine (CI.out _).mono ?_; rintro e w' ⟨rfl, rfl⟩))
      go_quiet ((go_at_call 199; exact quiet_add_right CP.out _ _ _))
      go_wp2_with fail
      rw [wrap32_byte, HE.out, H1.out]
      refine bodyPost_ret (results_cell2 rfl _ _ rfl ((((((Blk.made w _ _).drewN _).setOther (fun e => hpn e.symm) _).set 0 _).set 1 _).set 2 _) Tryz.underlying209 rfl (by kernel_rfl)) rfl ?_
      rw [← HT.out]
      exact ⟨rfl, k + 1, fun _ => rfl, by omega, fin3 (Blk.set ((h.alloc _).drewN _) 1 _) hpn _ _ _, chg3 ((((Chg.refl (fun i => i = p) w).alloc _).drewN _).setCell (fun _ => rfl) _) (Nat.le_refl _) _ _ _⟩
    · have hsn : signN (s.data.toList.drop k) = 2 := by
        unfold signN
        rw [hB, if_pos rfl]
      obtain ⟨h2, hk2⟩ := two_bytes s k hB
      have H2 := Lib.hid h2
      rw [hsn] at hT
      have HT := Lib.hid hT
      clear hT hsn hB hcn hcon hasc h2
      go_enter Tryz.func155, Tryz.ntmps155
      go_wp2_with fail
      go_quiet (fail)
      generalize s[k] = cb at *
      go_wp2_with (first | (go_at_call 194; refine (CC.out _).mono ?_; rintro e w' ⟨rfl, rfl⟩) | (go_at_call 196; refine (CD.out _).mono ?_; rintro e w' ⟨rfl, rfl⟩) | (go_at_call 198; refine (CI.out _).mono ?_; rintro e w' ⟨rfl, rfl⟩))
      go_quiet ((go_at_call 199; exact quiet_add_right CP.out _ _ _))
      go_wp2_with fail
      rw [H2.out]
      refine bodyPost_ret (results_cell2 rfl _ _ rfl ((((((Blk.made w _ _).drewN _).setOther (fun e => hpn e.symm) _).set 0 _).set 1 _).set 2 _) Tryz.underlying209 rfl (by kernel_rfl)) rfl ?_
      rw [← HT.out]
      exact ⟨rfl, k + 2, fun _ => rfl, hk2, fin3 (Blk.set ((h.alloc _).drewN _) 1 _) hpn _ _ _, chg3 ((((Chg.refl (fun i => i = p) w).alloc _).drewN _).setCell (fun _ => rfl) _) (Nat.le_refl _) _ _ _⟩
theorem next_any (p : Nat) (s : ByteArray) (k : Nat) (c f : Int) (w : World) (h : Scn w p s k c f) (hk : k < s.size) (hs : s.size ≤ 100000) (hv : ErrVar w) (hvp : p ≠ 2) :
    Calls Tryz.prog 155 #[.pointer (some ⟨p, 0, none⟩)] w (NextPost p s k c f w (tokF (s.data.toList.drop k))) := by
  cases hl : letterB s[k].toNat
  · cases hd : digitB s[k].toNat
    · exact next_sign p s k c f w h hk hs hl hd
    · exact next_digit p s k c f w h hk hs hl hd hv hvp
  · exact next_letter p s k c f w h hk hs hl
end lex
end Go.Proofs.YtpcihajmcejliaaGreatDoor
