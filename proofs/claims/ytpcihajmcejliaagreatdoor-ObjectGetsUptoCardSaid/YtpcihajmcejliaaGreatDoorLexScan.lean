/- The walk of lex.Scan. -/
import Derived.Test.YtpcihajmcejliaaGreatDoorLexNext
import Derived.RegionTactic
import Derived.ChangeAlike
namespace Go.Proofs.YtpcihajmcejliaaGreatDoor
open Go.RowKit
/-- a token: its kind, where it begins, how long it is -/
abbrev Tok := Int × Nat × Nat
def Tok.cells (s : ByteArray) (t : Tok) : List Value := [.int .i64 t.1, .string (s.extract t.2.1 (t.2.1 + t.2.2)), .int .i64 t.2.1]
def tokCells (s : ByteArray) (l : List Tok) : List Value := l.flatMap (Tok.cells s)
/-- from a place on where nothing is to be passed over -/
def scanTok : Nat → List UInt8 → Nat → List Tok → List Tok × Int × Nat
  | 0, _, _, _ => ([], 0, 0)
  | f + 1, l, p, acc =>
    if p < l.length then
      let T := tokF (l.drop p)
      if T.2.2 = 0 then scanTok f l (p + T.2.1 + skipB false (l.drop (p + T.2.1))) (acc ++ [(T.1, p, T.2.1)]) else ([], T.2.2, p)
    else (acc, 0, 0)
def scanF (l : List UInt8) : List Tok × Int × Nat := if 3000 < l.length then ([], 1, 0) else scanTok (l.length + 1) l (skipB false l) []
theorem tokCells_snoc (s : ByteArray) (l : List Tok) (t : Tok) : tokCells s (l ++ [t]) = tokCells s l ++ Tok.cells s t := by simp [tokCells]
theorem tok_pos (l : List UInt8) (h : (tokF l).2.2 = 0) : 1 ≤ (tokF l).2.1 := by
  cases l with
  | nil => simp [tokF] at h
  | cons c r =>
    simp only [tokF] at h ⊢
    have hr : partB c.toNat = true → 1 ≤ runN partB (c :: r) := by
      intro hb; simp [runN, hb]
    split
    · rename_i hl; exact hr (by simp [partB, hl])
    · rename_i hl
      rw [if_neg hl] at h
      split
      · rename_i hd; exact hr (by simp [partB, hd])
      · rename_i hd
        rw [if_neg hd] at h
        by_cases hz : signN (c :: r) = 0
        · simp [hz] at h
        · simp only; omega
namespace lex
set_option maxRecDepth 100000 in
set_option maxHeartbeats 1000000 in
theorem scan_long (s : ByteArray) (w : World) (h : 3000 < s.size) (hs : s.size ≤ 9223372036854775807) :
    Calls Tryz.prog 121 #[.string s] w fun e w' => e = .returned (.tuple #[.slice none 0 0, .agg #[.int .i64 1, .int .i64 0]]) ∧ Ext w w' := by
  go_enter Tryz.func121, Tryz.ntmps121
  go_wp2_with fail
  exact bodyPost_ret (results_2cell rfl _ _ rfl (Blk.made w _ _) Tryz.underlying104 rfl (by kernel_rfl)) rfl ⟨rfl, (Chg.refl _ w).alloc _⟩
set_option maxRecDepth 100000 in
set_option maxHeartbeats 2000000 in
theorem scan_any (s : ByteArray) (w : World) (h : s.size ≤ 3000) (hv : ErrVar w) (T : List Tok × Int × Nat) (hT : Hid (scanF s.data.toList = T)) :
    Calls Tryz.prog 121 #[.string s] w fun e w' => ∃ v, e = .returned (.tuple #[v, .agg #[.int .i64 T.2.1, .int .i64 T.2.2]]) ∧ w'.ownsRow (w.heap.size + 2) 209 3 v T.1.length (tokCells s T.1) ∧ Ext w w' := by
  have hlen : s.data.toList.length = s.size := by rw [Array.length_toList]; rfl
  go_enter Tryz.func121, Tryz.ntmps121
  go_wp2_with fail
  refine (blanks_any (w.heap.size + 1) s 0 0 0 _ (Blk.made2 w _ _ _) (by omega) (by omega)).mono ?_
  rintro e w1 ⟨rfl, hS, hC⟩
  have hR : Blk w1 w.heap.size #[.int .i64 0, .int .i64 0] 104 := ((Blk.made w _ _).alloc _).chg hC (by omega)
  have hE : Ext w w1 := (((Chg.refl _ w).alloc _).alloc _).trans hC (fun i hi e => by omega)
  have hv1 : ErrVar w1 := hv.ext hE
  have hgv := hv.lt
  have hg0 : w.heap.size + 2 ≤ w1.heap.size := by have := hC.size; simp at this; omega
  rw [Nat.zero_add] at hS
  have hk0 : skipB false s.data.toList ≤ s.size := by have := skip_le s.data.toList false; omega
  have hT0 : scanTok (s.data.toList.length + 1) s.data.toList (skipB false s.data.toList) [] = T := by
    have := hT.out
    rwa [scanF, if_neg (by omega)] at this
  simp only [List.drop_zero] at hS
  generalize skipB false s.data.toList = k0 at *
  have HT0 := Lib.hid hT0
  clear hT hT0 hC
  generalize hP : w.heap.size + 1 = P at *
  generalize hQ : w.heap.size = R at *
  have HP := Lib.hid hP
  have HQ := Lib.hid hQ
  clear hP hQ
  go_wp2_with fail
  have hb0 : w1.ownsRow (R + 2) 209 3 (.slice none 0 0) 0 [] := World.ownsRow_nil _ _ _ _
  go_loopw [5] (fun v wr => ∃ (k f : Nat) (acc : List Tok), k ≤ s.size ∧ s.size < f + k ∧ Scn wr P s k 0 0 ∧ Blk wr R #[.int .i64 0, .int .i64 0] 104 ∧ wr.ownsRow (R + 2) 209 3 v acc.length (tokCells s acc) ∧ acc.length ≤ k ∧ Ext w wr ∧ ErrVar wr ∧ R + 2 ≤ wr.heap.size ∧ Hid (scanTok f s.data.toList k acc = T)) (fun _ wr => s.size - at1 wr P)
  case atStart => exact ⟨k0, s.data.toList.length + 1, [], hk0, by omega, hS, hR, hb0, Nat.zero_le _, hE, hv1, hg0, HT0.out⟩
  case round =>
    obtain ⟨k, f, acc, hk, hf, hS, hR, hown, hacc, hE, hv1, hg0, hrel⟩ := hrel
    have hm := Scn.at1 hS
    have HM := Lib.hid hm
    have hpP : P < wr.heap.size := hS.lt
    have hPR : P ≠ R := by have := HP.out; have := HQ.out; omega
    clear hm
    obtain ⟨f, rfl⟩ : ∃ f', f = f' + 1 := ⟨f - 1, by omega⟩
    have c0 := hS.cell 0
    have c1 := hS.cell 1
    simp only [List.getElem?_toArray, List.getElem?_cons_zero, List.getElem?_cons_succ] at c0 c1
    by_cases hlt : k < s.size
    · have hd : decide ((k : Int) < (s.size : Int)) = true := by simp; omega
      have hr := hrel.out
      rw [scanTok, if_pos (by omega)] at hr
      have hpos := tok_pos (s.data.toList.drop k)
      have HN := Lib.hid (fun w' h' hv' => next_any P s k 0 0 w' h' hlt (by omega) hv' (by have := HP.out; have := HQ.out; omega))
      generalize tokF (s.data.toList.drop k) = N at *
      obtain ⟨kd, n, e⟩ := N
      by_cases he : e = 0
      · subst he
        simp only [if_true] at hr hpos
        have hn : 1 ≤ n := hpos trivial
        have HR := Lib.hid hr
        clear hr hpos
        go_wp2_with fail
        refine (HN.out _ hS hv1).mono ?_
        rintro e w' ⟨rfl, k', hk', hk2, hS', hC'⟩
        (try simp only [if_true, tokV])
        have hown' := ownsRow_chg hown hC' (fun i hi e => by subst e; have := HP.out; omega)
        go_upto_region 14 with (fail)
        iterate 10 (go_step)
        refine wpList_append_blk rfl (.tmp 54) (.tmp 56) 205 rfl (R + 2) 209 (.agg #[.int .i64 0, .string ⟨#[]⟩, .int .i64 0]) 3 32 Tryz.underlying205 (by kernel_rfl) rfl (by omega) _ acc.length (tokCells s acc) rfl (ownsRow_ext hown' (((Chg.refl _ _).alloc _).alloc _)) _ 1 1 209 [.int .i64 kd, .string (s.extract k (k + n)), .int .i64 k] rfl (Blk.made2 _ _ _ _) rfl ?c1 ?c2 ?c3 ?c4 ?_
        case c1 => intro u hu; simp at hu; rcases hu with rfl | rfl | rfl <;> rfl
        case c2 => unfold maxLen; omega
        case c3 => omega
        case c4 => have := hC'.size; simp; omega
        intro v' w2 hown2 hC2 _
        have hPb : P < R + 2 := by have := HP.out; omega
        have hS2 : Scn w2 P s k' 0 0 := ((hS'.alloc _).alloc _).chg hC2 (by omega)
        have hC3 : Chg (fun i => i = P ∨ R + 2 ≤ i) wr w2 := (((hC'.weak (fun _ _ h => .inl h)).alloc _).alloc _).trans hC2 (fun _ _ h => .inr h)
        have hR2 : Blk w2 R #[.int .i64 0, .int .i64 0] 104 := hR.chg hC3 (by omega)
        have hE2 : Ext w w2 := hE.trans hC3 (fun i hi h => by have := HQ.out; have := HP.out; omega)
        have hv2 : ErrVar w2 := hv1.chg hC3 (by have := HP.out; omega)
        have hg2 : R + 2 ≤ w2.heap.size := Nat.le_trans hg0 hC3.size
        obtain rfl : k' = k + n := hk' rfl
        clear hS' hC' hown' hC2 hC3 hk'
        go_wp2_with fail
        refine (blanks_any P s (k + n) 0 0 _ hS2 hk2 (by omega)).mono ?_
        rintro e w3 ⟨rfl, hS3, hC3⟩
        go_wp2_with fail
        go_roundw
        case rel =>
          have hle := skip_le (s.data.toList.drop (k + n)) false
          simp only [List.length_drop] at hle
          refine ⟨_, f, acc ++ [(kd, k, n)], by omega, by omega, hS3, hR2.chg hC3 (by omega), ?_, by simp; omega, hE2.trans hC3 (fun i hi h => by have := HQ.out; have := HP.out; omega), hv2.chg hC3 (by have := HP.out; omega), Nat.le_trans hg2 hC3.size, HR.out⟩
          have := ownsRow_chg hown2 hC3 (fun i hi e => by omega)
          rw [tokCells_snoc, List.length_append]
          exact this
        case measure =>
          rw [HM.out, Scn.at1 hS3]
          omega
      · have hr2 : ([], e, k) = T := by rw [← hr]; simp only [if_neg he]
        have HR := Lib.hid hr2
        have hne : (e != 0) = true := by rw [bne_iff_ne]; exact he
        have HE := Lib.hid he
        clear hr hpos hr2 he
        go_wp2_with fail
        refine (HN.out _ hS hv1).mono ?_
        rintro e w' ⟨rfl, k', hk', hk2, hS', hC'⟩
        (try simp only [if_neg HE.out, tokV])
        have hS3 := (hS'.alloc (.cells #[.int .i64 0, .string ⟨#[]⟩, .int .i64 0] 209))
        have hf2 := hS3.frozen 2
        have hf3 := hS3.frozen 3
        have hc2 := hS3.cell 2
        have hc3 := hS3.cell 3
        go_wp2_with fail
        have hS4 : Blk (((w'.alloc (.cells #[.int .i64 0, .string ⟨#[]⟩, .int .i64 0] 209)).setCell ⟨P, 2, none⟩ (.int .i64 e)).setCell ⟨P, 3, none⟩ (.int .i64 k)) P #[.string s, .int .i64 k', .int .i64 e, .int .i64 k] 258 := (hS3.set 2 _).set 3 _
        have hC4 : Chg (fun i => i = P) wr (((w'.alloc (.cells #[.int .i64 0, .string ⟨#[]⟩, .int .i64 0] 209)).setCell ⟨P, 2, none⟩ (.int .i64 e)).setCell ⟨P, 3, none⟩ (.int .i64 k)) := ((hC'.alloc _).setCell (fun _ => rfl) _).setCell (fun _ => rfl) _
        clear hc2 hc3 hf2 hf3 hS3
        generalize ((w'.alloc (.cells #[.int .i64 0, .string ⟨#[]⟩, .int .i64 0] 209)).setCell ⟨P, 2, none⟩ (.int .i64 e)).setCell ⟨P, 3, none⟩ (.int .i64 k) = w4 at *
        have hR4 : Blk w4 R #[.int .i64 0, .int .i64 0] 104 := hR.chg hC4 (by omega)
        have hc2 : w4.cell? ⟨P, 2, none⟩ = some (.int .i64 e) := hS4.cell 2
        have hc3 : w4.cell? ⟨P, 3, none⟩ = some (.int .i64 k) := hS4.cell 3
        have hr0 : w4.cell? ⟨R, 0, none⟩ = some (.int .i64 0) := hR4.cell 0
        have hr1 : w4.cell? ⟨R, 1, none⟩ = some (.int .i64 0) := hR4.cell 1
        have hrf := hR4.frozen
        go_still_tail 5, (by kernel_rfl)
        go_wp2_with fail
        refine bodyPost_ret (results_2cell rfl _ _ rfl ((hR4.drew.set 0 _).set 1 _) Tryz.underlying104 rfl (by kernel_rfl)) rfl ?_
        rw [← HR.out]
        exact ⟨_, rfl, World.ownsRow_nil _ _ _ _, ((hE.trans hC4 (fun i hi h => by have := HQ.out; have := HP.out; omega)).drew.setNew (Nat.le_of_eq HQ.out) _).setNew (Nat.le_of_eq HQ.out) _⟩
    · have hd : decide ((k : Int) < (s.size : Int)) = false := by simp; omega
      have hr := hrel.out
      rw [scanTok, if_neg (by omega)] at hr
      have HR := Lib.hid hr
      clear hr
      have hc2 : wr.cell? ⟨P, 2, none⟩ = some (.int .i64 0) := hS.cell 2
      have hc3 : wr.cell? ⟨P, 3, none⟩ = some (.int .i64 0) := hS.cell 3
      have hr0 : wr.cell? ⟨R, 0, none⟩ = some (.int .i64 0) := hR.cell 0
      have hr1 : wr.cell? ⟨R, 1, none⟩ = some (.int .i64 0) := hR.cell 1
      have hrf := hR.frozen
      go_wp2_with fail
      go_still_tail 6, (by kernel_rfl)
      go_wp2_with fail
      refine bodyPost_ret (results_2cell rfl _ _ rfl ((hR.drew.set 0 _).set 1 _) Tryz.underlying104 rfl (by kernel_rfl)) rfl ?_
      rw [← HR.out]
      refine ⟨_, rfl, ?_, (hE.drew.setNew (Nat.le_of_eq HQ.out) _).setNew (Nat.le_of_eq HQ.out) _⟩
      rw [HQ.out]
      exact ownsRow_chg hown (((Chg.refl (fun i => i = R) _).drew.setCell (fun _ => rfl) _).setCell (fun _ => rfl) _) (fun i hi e => by omega)
end lex
end Go.Proofs.YtpcihajmcejliaaGreatDoor
