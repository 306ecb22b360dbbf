/- The walks of lex.number and scanner.next. -/
import Derived.Test.YtpcihajmcejliaaGreatDoorLexBlanks
import Derived.Test.YtpcihajmcejliaaGreatDoorLexNum
import Derived.Test.YtpcihajmcejliaaGreatDoorShelf
import Derived.Deep.OwnRows
namespace Go.Proofs.YtpcihajmcejliaaGreatDoor
open Go.RowKit
/-- the library's sentinel stands in its variable -/
def ErrVar (w : World) : Prop := ∃ tp p, w.var? Tryz.prog "strconv.ErrRange" = some #[.iface tp p]
theorem ErrVar.named : Tryz.prog.globalNamed "strconv.ErrRange" = some 2 := by kernel_rfl
theorem ErrVar.lt {w : World} (h : ErrVar w) : 2 < w.heap.size := by
  obtain ⟨tp, p, h⟩ := h
  simp only [World.var?, ErrVar.named, Option.bind_some] at h
  rcases Nat.lt_or_ge 2 w.heap.size with h' | h'
  · exact h'
  · rw [Array.getElem?_eq_none h'] at h; cases h
theorem ErrVar.chg {S : Nat → Prop} {w w' : World} (h : ErrVar w) (hc : Chg S w w') (hn : ¬ S 2) : ErrVar w' := by
  have hl := h.lt
  obtain ⟨tp, p, h⟩ := h
  refine ⟨tp, p, ?_⟩
  simp only [World.var?, ErrVar.named, Option.bind_some] at h ⊢
  rw [hc.block _ hl hn]
  exact h
theorem ErrVar.ext {w w' : World} (h : ErrVar w) (hc : Ext w w') : ErrVar w' := h.chg hc id
namespace lex
def tokV (k : Int) (t : ByteArray) (a : Int) : Value := .agg #[.int .i64 k, .string t, .int .i64 a]
theorem ret_tok {k k' a a' e e' : Int} {t t' : ByteArray} (h1 : k = k') (h2 : t = t') (h3 : a = a') (h4 : e = e') : Ending.returned (.tuple #[tokV k t a, .int .i64 e]) = .returned (.tuple #[tokV k' t' a', .int .i64 e']) := by rw [h1, h2, h3, h4]
theorem bytes_ext (w : World) (e : TypeId) (s : ByteArray) : Ext w (Lib.bytesWorld w e s) :=
  ⟨by simp [Lib.bytesWorld, World.freeze]; rfl, by simp [Lib.bytesWorld, World.freeze], by simp [Lib.bytesWorld, World.freeze]; rfl, by rw [Lib.bytesWorld_size]; omega, fun k hk _ => Lib.bytesWorld_at_old _ _ _ _ hk⟩
theorem parse_ok (s : ByteArray) (hs : s.size ≤ 100000) (hd : digs s.data.toList = true) (hn : s.data.toList ≠ []) (hl : decFrom 0 s.data.toList < 9223372036854775808) (w : World) :
    Calls Tryz.prog 221 #[.string s, .int .i64 10, .int .i64 64] w fun e w' => e = .returned (.tuple #[.int .i64 (decFrom 0 s.data.toList), .nilIface]) ∧ Ext w w' := by
  have h := int_digits _ hd hn
  rw [if_pos hl] at h
  refine (Tryz.strconv_ParseInt_10_at64_ok s (by omega) _ h w).mono ?_
  rintro e w' ⟨rfl, rfl | ⟨t, rfl⟩⟩
  · exact ⟨rfl, Chg.refl _ _⟩
  · exact ⟨rfl, bytes_ext _ _ _⟩
theorem parse_range (s : ByteArray) (hs : s.size ≤ 100000) (hd : digs s.data.toList = true) (hn : s.data.toList ≠ []) (hl : ¬ decFrom 0 s.data.toList < 9223372036854775808) (w : World) (hv : ErrVar w) :
    Calls Tryz.prog 221 #[.string s, .int .i64 10, .int .i64 64] w fun e w' => ∃ v T p, e = .returned (.tuple #[.int .i64 v, .iface T p]) ∧ Ext w w' := by
  have h := int_digits _ hd hn
  rw [if_neg hl] at h
  obtain ⟨tp, p, hv⟩ := hv
  refine (Tryz.strconv_ParseInt_10_at64_range_var s (by omega) h tp p w hv).mono ?_
  rintro e w' ⟨N, rfl, _, _, hB⟩
  exact ⟨_, _, _, rfl, Below.toExt hB⟩
set_option maxRecDepth 100000 in
set_option maxHeartbeats 1000000 in
theorem number_form (s : ByteArray) (w : World) (hs : s.size ≤ 100000) (hf : digs s.data.toList = false) :
    Calls Tryz.prog 197 #[.string s] w fun e w' => e = .returned (.tuple #[tokV 0 ⟨#[]⟩ 0, .int .i64 2]) ∧ Ext w w' := by
  obtain ⟨r, hr⟩ : ∃ r, Lib.trimS s.data.toList [48, 49, 50, 51, 52, 53, 54, 55, 56, 57] = r := ⟨_, rfl⟩
  have hne : r ≠ [] := by
    rw [← hr]; intro h; rw [(trim_digits _).1 h] at hf; cases hf
  have c1 := fun w => Tryz.strings_Trim_digits s w (by omega)
  rw [hr] at c1
  have C1 := Lib.hid c1
  have hb1 : r.isEmpty = false := by cases r <;> simp_all
  clear c1 hr hf hne
  go_enter Tryz.func197, Tryz.ntmps197
  go_wp2_with (go_at_call 220; refine (C1.out _).mono ?_; rintro e w' ⟨rfl, hB⟩; have hE := ((Chg.refl (fun _ => False) w).alloc _).ext (Below.toExt hB); have hK := (Blk.made _ _ _).ext (Below.toExt hB); have hKc := hK.cell; have hKf := hK.frozen)
  exact bodyPost_ret (results_cell2 rfl _ _ rfl (((hK.set 0 _).set 1 _).set 2 _) Tryz.underlying209 rfl (by kernel_rfl)) rfl ⟨rfl, ((hE.setNew (Nat.le_refl _) _).setNew (Nat.le_refl _) _).setNew (Nat.le_refl _) _⟩
set_option maxRecDepth 100000 in
set_option maxHeartbeats 1000000 in
theorem number_nought (s : ByteArray) (w : World) (hs : s.size ≤ 100000) (hf : digs s.data.toList = true) (h1 : 1 < s.size) (h0 : s.data.toList.head? = some 48) :
    Calls Tryz.prog 197 #[.string s] w fun e w' => e = .returned (.tuple #[tokV 0 ⟨#[]⟩ 0, .int .i64 2]) ∧ Ext w w' := by
  have c1 := fun w => Tryz.strings_Trim_digits s w (by omega)
  rw [(trim_digits _).2 hf] at c1
  have C1 := Lib.hid c1
  have hz : ((s[0].toNat : Int) == 48) = true := by
    have : s.data.toList[0]? = some 48 := by rw [← List.head?_eq_getElem?]; exact h0
    rw [List.getElem?_eq_getElem (by simpa using (show 0 < s.data.size from by have e : s.data.size = s.size := rfl; omega))] at this
    have e : s[0] = 48 := Option.some.inj this
    rw [e]; rfl
  clear c1 hf h0
  go_enter Tryz.func197, Tryz.ntmps197
  go_wp2_with (go_at_call 220; refine (C1.out _).mono ?_; rintro e w' ⟨rfl, hB⟩; have hE := ((Chg.refl (fun _ => False) w).alloc _).ext (Below.toExt hB); have hK := (Blk.made _ _ _).ext (Below.toExt hB); have hKc := hK.cell; have hKf := hK.frozen)
  exact bodyPost_ret (results_cell2 rfl _ _ rfl (((hK.set 0 _).set 1 _).set 2 _) Tryz.underlying209 rfl (by kernel_rfl)) rfl ⟨rfl, ((hE.setNew (Nat.le_refl _) _).setNew (Nat.le_refl _) _).setNew (Nat.le_refl _) _⟩
set_option maxRecDepth 100000 in
set_option maxHeartbeats 1000000 in
theorem number_range (s : ByteArray) (w : World) (hs : s.size ≤ 100000) (hf : digs s.data.toList = true) (hn : s.data.toList ≠ []) (hz : ∀ _ : 1 < s.size, ((s[0]!.toNat : Int) == 48) = false) (hl : ¬ decFrom 0 s.data.toList < 9223372036854775808) (hv : ErrVar w) :
    Calls Tryz.prog 197 #[.string s] w fun e w' => e = .returned (.tuple #[tokV 0 ⟨#[]⟩ 0, .int .i64 6]) ∧ Ext w w' := by
  have c1 := fun w => Tryz.strings_Trim_digits s w (by omega)
  rw [(trim_digits _).2 hf] at c1
  have C1 := Lib.hid c1
  have C2 := Lib.hid (parse_range s hs hf hn hl)
  clear c1 hf hn hl
  by_cases h1 : 1 < s.size
  · have hz := hz h1
    rw [getElem!_pos s 0 (by omega)] at hz
    go_enter Tryz.func197, Tryz.ntmps197
    go_wp2_with (first | (go_at_call 220; refine (C1.out _).mono ?_; rintro e w' ⟨rfl, hB⟩; have hE := ((Chg.refl (fun _ => False) w).alloc _).ext (Below.toExt hB); have hK := (Blk.made _ _ _).ext (Below.toExt hB)) | (go_at_call 221; refine (C2.out _ (hv.ext hE)).mono ?_; rintro e w2 ⟨v, T, p, rfl, hE2⟩; have hK2 := hK.ext hE2; have hKc := hK2.cell; have hKf := hK2.frozen))
    exact bodyPost_ret (results_cell2 rfl _ _ rfl (((hK2.set 0 _).set 1 _).set 2 _) Tryz.underlying209 rfl (by kernel_rfl)) rfl ⟨rfl, (((hE.ext hE2).setNew (Nat.le_refl _) _).setNew (Nat.le_refl _) _).setNew (Nat.le_refl _) _⟩
  · clear hz
    go_enter Tryz.func197, Tryz.ntmps197
    go_wp2_with (first | (go_at_call 220; refine (C1.out _).mono ?_; rintro e w' ⟨rfl, hB⟩; have hE := ((Chg.refl (fun _ => False) w).alloc _).ext (Below.toExt hB); have hK := (Blk.made _ _ _).ext (Below.toExt hB)) | (go_at_call 221; refine (C2.out _ (hv.ext hE)).mono ?_; rintro e w2 ⟨v, T, p, rfl, hE2⟩; have hK2 := hK.ext hE2; have hKc := hK2.cell; have hKf := hK2.frozen))
    exact bodyPost_ret (results_cell2 rfl _ _ rfl (((hK2.set 0 _).set 1 _).set 2 _) Tryz.underlying209 rfl (by kernel_rfl)) rfl ⟨rfl, (((hE.ext hE2).setNew (Nat.le_refl _) _).setNew (Nat.le_refl _) _).setNew (Nat.le_refl _) _⟩
set_option maxRecDepth 100000 in
set_option maxHeartbeats 1000000 in
theorem number_good (s : ByteArray) (w : World) (hs : s.size ≤ 100000) (hf : digs s.data.toList = true) (hn : s.data.toList ≠ []) (hz : ∀ _ : 1 < s.size, ((s[0]!.toNat : Int) == 48) = false) (hl : decFrom 0 s.data.toList < 9223372036854775808) :
    Calls Tryz.prog 197 #[.string s] w fun e w' => e = .returned (.tuple #[tokV 2 s 0, .int .i64 0]) ∧ Ext w w' := by
  have c1 := fun w => Tryz.strings_Trim_digits s w (by omega)
  rw [(trim_digits _).2 hf] at c1
  have C1 := Lib.hid c1
  have C2 := Lib.hid (parse_ok s hs hf hn hl)
  clear c1 hf hn hl
  by_cases h1 : 1 < s.size
  · have hz := hz h1
    rw [getElem!_pos s 0 (by omega)] at hz
    go_enter Tryz.func197, Tryz.ntmps197
    go_wp2_with (first | (go_at_call 220; refine (C1.out _).mono ?_; rintro e w' ⟨rfl, hB⟩; have hE := ((Chg.refl (fun _ => False) w).alloc _).ext (Below.toExt hB); have hK := (Blk.made _ _ _).ext (Below.toExt hB)) | (go_at_call 221; refine (C2.out _).mono ?_; rintro e w2 ⟨rfl, hE2⟩; have hK2 := hK.ext hE2; have hKc := hK2.cell; have hKf := hK2.frozen))
    exact bodyPost_ret (results_cell2 rfl _ _ rfl (((hK2.set 0 _).set 1 _).set 2 _) Tryz.underlying209 rfl (by kernel_rfl)) rfl ⟨rfl, (((hE.ext hE2).setNew (Nat.le_refl _) _).setNew (Nat.le_refl _) _).setNew (Nat.le_refl _) _⟩
  · clear hz
    go_enter Tryz.func197, Tryz.ntmps197
    go_wp2_with (first | (go_at_call 220; refine (C1.out _).mono ?_; rintro e w' ⟨rfl, hB⟩; have hE := ((Chg.refl (fun _ => False) w).alloc _).ext (Below.toExt hB); have hK := (Blk.made _ _ _).ext (Below.toExt hB)) | (go_at_call 221; refine (C2.out _).mono ?_; rintro e w2 ⟨rfl, hE2⟩; have hK2 := hK.ext hE2; have hKc := hK2.cell; have hKf := hK2.frozen))
    exact bodyPost_ret (results_cell2 rfl _ _ rfl (((hK2.set 0 _).set 1 _).set 2 _) Tryz.underlying209 rfl (by kernel_rfl)) rfl ⟨rfl, (((hE.ext hE2).setNew (Nat.le_refl _) _).setNew (Nat.le_refl _) _).setNew (Nat.le_refl _) _⟩
theorem number_any (s : ByteArray) (w : World) (hs : s.size ≤ 100000) (h0 : 0 < s.size) (hv : ErrVar w) :
    Calls Tryz.prog 197 #[.string s] w fun e w' => e = .returned (.tuple #[if numeralF s.data.toList = 0 then tokV 2 s 0 else tokV 0 ⟨#[]⟩ 0, .int .i64 (numeralF s.data.toList)]) ∧ Ext w w' := by
  have hsz : s.data.toList.length = s.size := by rw [Array.length_toList]; rfl
  have hn : s.data.toList ≠ [] := by intro h; rw [h] at hsz; simp at hsz; omega
  have hh : s.data.toList.head? = some s[0] := by
    rw [List.head?_eq_getElem?, List.getElem?_eq_getElem (by omega)]; rfl
  cases hd : digs s.data.toList
  · have e : numeralF s.data.toList = 2 := by rw [numeralF, if_pos hd]
    rw [e]
    exact number_form s w hs hd
  · by_cases hz : 1 < s.size ∧ s.data.toList.head? = some 48
    · have e : numeralF s.data.toList = 2 := by rw [numeralF, if_neg (by simp [hd]), if_pos ⟨by omega, hz.2⟩]
      rw [e]
      exact number_nought s w hs hd hz.1 hz.2
    · have hz' : ∀ _ : 1 < s.size, ((s[0]!.toNat : Int) == 48) = false := by
        intro h1
        rw [getElem!_pos s 0 (by omega), beq_eq_false_iff_ne]
        intro e
        exact hz ⟨h1, by rw [hh, (u8_int s[0] 48).1 e]⟩
      by_cases hl : decFrom 0 s.data.toList < 9223372036854775808
      · have e : numeralF s.data.toList = 0 := by rw [numeralF, if_neg (by simp [hd]), if_neg (by rw [hsz]; exact hz), if_neg (by omega)]
        rw [e]
        exact number_good s w hs hd hn hz' hl
      · have e : numeralF s.data.toList = 6 := by rw [numeralF, if_neg (by simp [hd]), if_neg (by rw [hsz]; exact hz), if_pos (by omega)]
        rw [e]
        exact number_range s w hs hd hn hz' hl hv
end lex
end Go.Proofs.YtpcihajmcejliaaGreatDoor
